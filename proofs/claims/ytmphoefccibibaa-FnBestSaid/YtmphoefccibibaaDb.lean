/- Functions of the program, each with what it gives back. -/
import Derived.Test.YtmphoefccibibaaKe
import Derived.Test.YtmphoefccibibaaChecked
import Derived.IntWalk
import Derived.Test.YtmphoefccibibaaDa
import Derived.Test.YtmphoefccibibaaFg
namespace Go.Proofs.Ytmphoefccibibaa
open Go Go.RowKit Go.IntWalk
open Enc (sz cs)
attribute [local irreducible] IntKind.wrap

/-! ### What is drawn -/
structure Cur where
  b : List UInt8
  i : Nat
  h : Int
structure CurOk (c : Cur) : Prop where
  i : c.i ≤ c.b.length
  b : c.b.length ≤ 1048576
abbrev cuC (c : Cur) : List Cell := [slE false c.b, i6 c.i, i6 c.h]
abbrev aC (c : Cur) : Arg := .own true 0 0 (cuC c)
/-- The first number of a drawing. -/
def hN (b : List UInt8) : Nat → Nat
  | 0 => 758758 + b.length
  | i + 1 => (hN b i * 137 + (b.getD i 0).toNat + 11) % 1073741824
theorem hN_le {b : List UInt8} (hb : b.length ≤ 1048576) : ∀ {i : Nat}, hN b i ≤ 1073741824
  | 0 => by simp only [hN]; omega
  | i + 1 => by simp only [hN]; omega
theorem hN_suc {b : List UInt8} {i : Nat} (h : i < b.length) : hN b (i + 1) = (hN b i * 137 + b[i].toNat + 11) % 1073741824 := by
  simp only [hN]; rw [List.getD_eq_getElem?_getD, List.getElem?_eq_getElem h]; rfl
def byH (h : Int) : Int := IntKind.i64.wrap (IntKind.i64.wrap (h * 6364136223846793005) + 1442695040888963407)
def byX (h : Int) : Nat := (BitVec.ofInt 64 (IntKind.i64.wrap ((BitVec.ofInt 64 (h.fdiv (2 ^ min 33 64)) ^^^ BitVec.ofInt 64 (h.fdiv (2 ^ min 47 64))).toNat : Nat)) &&& BitVec.ofInt 64 255).toNat
theorem byX_le (h : Int) : byX h ≤ 255 := by
  unfold byX
  rw [BitVec.toNat_and, show (BitVec.ofInt 64 255).toNat = 255 from rfl]
  exact Nat.and_le_right
def byC (c : Cur) : Nat × Cur := if c.i < c.b.length then ((byX (byH c.h) + (c.b.getD c.i 0).toNat) % 256, ⟨c.b, c.i + 1, byH c.h⟩) else (byX (byH c.h), ⟨c.b, c.i, byH c.h⟩)
theorem byC_yes {c : Cur} (h : c.i < c.b.length) : byC c = ((byX (byH c.h) + c.b[c.i].toNat) % 256, ⟨c.b, c.i + 1, byH c.h⟩) := by
  unfold byC; rw [if_pos h, List.getD_eq_getElem?_getD, List.getElem?_eq_getElem h]; rfl
theorem byC_no {c : Cur} (h : ¬ c.i < c.b.length) : byC c = (byX (byH c.h), ⟨c.b, c.i, byH c.h⟩) := by
  unfold byC; rw [if_neg h]
theorem byC_le (c : Cur) : (byC c).1 ≤ 255 := by
  unfold byC
  split
  · simp only; omega
  · exact byX_le _
theorem byC_ok {c : Cur} (h : CurOk c) : CurOk (byC c).2 := by
  have := h.i
  unfold byC
  split
  · exact ⟨by simp only; omega, h.b⟩
  · exact ⟨h.i, h.b⟩
/-- A number below `n`. -/
def blC (c : Cur) (n : Nat) : Nat × Cur :=
  if n = 0 then (0, c) else if n ≤ 256 then ((byC c).1 % n, (byC c).2) else
  (((byC c).1 * 65536 + (byC (byC c).2).1 * 256 + (byC (byC (byC c).2).2).1) % n, (byC (byC (byC c).2).2).2)
theorem blC_0 {c : Cur} : blC c 0 = (0, c) := if_pos rfl
theorem blC_s {c : Cur} {n : Nat} (h : ¬ n = 0) (h2 : n ≤ 256) : blC c n = ((byC c).1 % n, (byC c).2) := by
  unfold blC; rw [if_neg h, if_pos h2]
theorem blC_g {c : Cur} {n : Nat} (h2 : ¬ n ≤ 256) : blC c n = (((byC c).1 * 65536 + (byC (byC c).2).1 * 256 + (byC (byC (byC c).2).2).1) % n, (byC (byC (byC c).2).2).2) := by
  unfold blC; rw [if_neg (by omega), if_neg h2]
theorem blC_lt {c : Cur} {n : Nat} (h : 0 < n) : (blC c n).1 < n := by
  by_cases h2 : n ≤ 256
  · rw [blC_s (by omega) h2]; exact Nat.mod_lt _ h
  · rw [blC_g h2]; exact Nat.mod_lt _ h
theorem blC_ok {c : Cur} {n : Nat} (h : CurOk c) : CurOk (blC c n).2 := by
  by_cases h0 : n = 0
  · subst h0; rw [blC_0]; exact h
  · by_cases h2 : n ≤ 256
    · rw [blC_s h0 h2]; exact byC_ok h
    · rw [blC_g h2]; exact byC_ok (byC_ok (byC_ok h))
/-- One of a list. -/
def inC (c : Cur) (l : List Int) : Int × Cur := (l.getD (blC c l.length).1 0, (blC c l.length).2)
theorem inC_at {c : Cur} {l : List Int} (h : 0 < l.length) : inC c l = (l[(blC c l.length).1]'(blC_lt h), (blC c l.length).2) := by
  unfold inC; rw [List.getD_eq_getElem?_getD, List.getElem?_eq_getElem (blC_lt h)]; rfl
theorem inC_ok {c : Cur} {l : List Int} (h : CurOk c) : CurOk (inC c l).2 := blC_ok h
theorem inC_mem {c : Cur} {l : List Int} (h : 0 < l.length) : (inC c l).1 ∈ l := by rw [inC_at h]; exact List.getElem_mem _
/-- Bytes. -/
def bysC (c : Cur) : Nat → List UInt8 × Cur
  | 0 => ([], c)
  | n + 1 => ((bysC c n).1 ++ [UInt8.ofNat (byC (bysC c n).2).1], (byC (bysC c n).2).2)
theorem bysC_len {c : Cur} : ∀ {n : Nat}, (bysC c n).1.length = n
  | 0 => rfl
  | n + 1 => by simp only [bysC, List.length_append, List.length_singleton]; rw [bysC_len]
theorem bysC_ok {c : Cur} (h : CurOk c) : ∀ {n : Nat}, CurOk (bysC c n).2
  | 0 => h
  | n + 1 => byC_ok (bysC_ok h)
def smC (c : Cur) : List UInt8 × Cur := bysC (inC c [0, 1, 2, 5, 9]).2 (inC c [0, 1, 2, 5, 9]).1.toNat
theorem sm_b {c : Cur} : 0 ≤ (inC c [0, 1, 2, 5, 9]).1 ∧ (inC c [0, 1, 2, 5, 9]).1 ≤ 9 := by
  have := inC_mem (c := c) (l := [0, 1, 2, 5, 9]) (by decide)
  simp only [List.mem_cons, List.mem_nil_iff, or_false] at this
  omega
theorem smC_len {c : Cur} : (smC c).1.length ≤ 9 := by
  unfold smC; rw [bysC_len]; have := sm_b (c := c); omega
theorem smC_ok {c : Cur} (h : CurOk c) : CurOk (smC c).2 := bysC_ok (inC_ok h)
/-- Bytes that are bent. -/
def bdC (c : Cur) (b : List UInt8) : List UInt8 × Cur :=
  if b.length = 0 then (b, c) else
  match (blC c 5).1 with
  | 0 => (b.set (blC (blC c 5).2 b.length).1 (UInt8.ofNat (inC (blC (blC c 5).2 b.length).2 [0, 1, 2, 127, 128, 255]).1.toNat), (inC (blC (blC c 5).2 b.length).2 [0, 1, 2, 127, 128, 255]).2)
  | 1 => (b ++ [3], (blC c 5).2)
  | 2 => (b.take (blC (blC c 5).2 b.length).1, (blC (blC c 5).2 b.length).2)
  | _ => (b, (blC c 5).2)
/-- A root. -/
def mtC (c : Cur) : Met × Cur := (⟨(inC c [0, 1, 2, 3, 300, 1000000]).1, (inC (inC c [0, 1, 2, 3, 300, 1000000]).2 [0, 2, 9, 47]).1⟩, (inC (inC c [0, 1, 2, 3, 300, 1000000]).2 [0, 2, 9, 47]).2)
theorem mtC_ok {c : Cur} (h : CurOk c) : CurOk (mtC c).2 := inC_ok (inC_ok h)
def anC (c : Cur) : Met × Cur :=
  match (blC (mtC c).2 8).1 with
  | 0 => (⟨(inC (blC (mtC c).2 8).2 [-1, 1000001]).1, (mtC c).1.root⟩, (inC (blC (mtC c).2 8).2 [-1, 1000001]).2)
  | 1 => (⟨(mtC c).1.gen, (inC (blC (mtC c).2 8).2 [-1, 1, 48]).1⟩, (inC (blC (mtC c).2 8).2 [-1, 1, 48]).2)
  | _ => ((mtC c).1, (blC (mtC c).2 8).2)
theorem anC_0 {c : Cur} (h : (blC (mtC c).2 8).1 = 0) : anC c = (⟨(inC (blC (mtC c).2 8).2 [-1, 1000001]).1, (mtC c).1.root⟩, (inC (blC (mtC c).2 8).2 [-1, 1000001]).2) := by unfold anC; rw [h]; rfl
theorem anC_1 {c : Cur} (h : (blC (mtC c).2 8).1 = 1) : anC c = (⟨(mtC c).1.gen, (inC (blC (mtC c).2 8).2 [-1, 1, 48]).1⟩, (inC (blC (mtC c).2 8).2 [-1, 1, 48]).2) := by unfold anC; rw [h]; rfl
theorem anC_2 {c : Cur} (h0 : ¬ (blC (mtC c).2 8).1 = 0) (h1 : ¬ (blC (mtC c).2 8).1 = 1) : anC c = ((mtC c).1, (blC (mtC c).2 8).2) := by
  unfold anC
  split
  · rename_i h; exact absurd h h0
  · rename_i h; exact absurd h h1
  · rfl
theorem bdC_e {c : Cur} {b : List UInt8} (h : b.length = 0) : bdC c b = (b, c) := if_pos h
theorem bdC_0 {c : Cur} {b : List UInt8} (h : ¬ b.length = 0) (h2 : (blC c 5).1 = 0) : bdC c b = (b.set (blC (blC c 5).2 b.length).1 (UInt8.ofNat (inC (blC (blC c 5).2 b.length).2 [0, 1, 2, 127, 128, 255]).1.toNat), (inC (blC (blC c 5).2 b.length).2 [0, 1, 2, 127, 128, 255]).2) := by
  unfold bdC; rw [if_neg h, h2]; rfl
theorem bdC_1 {c : Cur} {b : List UInt8} (h : ¬ b.length = 0) (h2 : (blC c 5).1 = 1) : bdC c b = (b ++ [3], (blC c 5).2) := by
  unfold bdC; rw [if_neg h, h2]; rfl
theorem bdC_2 {c : Cur} {b : List UInt8} (h : ¬ b.length = 0) (h2 : (blC c 5).1 = 2) : bdC c b = (b.take (blC (blC c 5).2 b.length).1, (blC (blC c 5).2 b.length).2) := by
  unfold bdC; rw [if_neg h, h2]; rfl
theorem bdC_3 {c : Cur} {b : List UInt8} (h : ¬ b.length = 0) (h0 : ¬ (blC c 5).1 = 0) (h1 : ¬ (blC c 5).1 = 1) (h2 : ¬ (blC c 5).1 = 2) : bdC c b = (b, (blC c 5).2) := by
  unfold bdC; rw [if_neg h]
  split
  · rename_i q; exact absurd q h0
  · rename_i q; exact absurd q h1
  · rename_i q; exact absurd q h2
  · rfl
def nwC (b : List UInt8) : Cur := ⟨b, 0, (hN b (min b.length 4000) : Nat)⟩
theorem nwC_ok {b : List UInt8} (h : b.length ≤ 1048576) : CurOk (nwC b) := ⟨Nat.zero_le _, h⟩
theorem and30 {n : Int} {m : Nat} (hn : n = (m : Int)) (h : m < 9223372036854775808) : IntKind.i64.wrap ((BitVec.ofInt IntKind.i64.bits n &&& BitVec.ofInt IntKind.i64.bits 1073741823).toNat : Int) = ((m % 1073741824 : Nat) : Int) := by
  subst hn; exact and64 30 (by decide) h
theorem and8 {n : Int} {m : Nat} (hn : n = (m : Int)) (h : m < 9223372036854775808) : IntKind.i64.wrap ((BitVec.ofInt IntKind.i64.bits n &&& BitVec.ofInt IntKind.i64.bits 255).toNat : Int) = ((m % 256 : Nat) : Int) := by
  subst hn; exact and64 8 (by decide) h
theorem andX {h : Int} : IntKind.i64.wrap ((BitVec.ofInt IntKind.i64.bits (IntKind.i64.wrap ((BitVec.ofInt 64 (h.fdiv (2 ^ min 33 64)) ^^^ BitVec.ofInt 64 (h.fdiv (2 ^ min 47 64))).toNat : Nat)) &&& BitVec.ofInt IntKind.i64.bits 255).toNat : Int) = ((byX h : Nat) : Int) := by
  have := byX_le h
  exact i64_in ((byX h : Nat) : Int) (by omega)

set_option maxRecDepth 100000 in
theorem tx49 {c : Cur} (hc : CurOk c := by first | assumption | omega | (simp; done) | (simp; omega)) : T 49 [aC c] [vI (byC c).1] [some (cuC (byC c).2)] := by
  refine w_call md [] Try.func49 rfl ?_
  have hi := hc.i
  have hb := hc.b
  have hx := byX_le (byH c.h)
  by_cases hlt : c.i < c.b.length
  · rw [byC_yes hlt]
    have hu := UInt8.toNat_lt c.b[c.i]
    repeat' ((conv => whnf); (first | refine And.intro (by decide) (Exists.intro _ (And.intro rfl ?_)) | refine Exists.intro _ (And.intro (andX (h := byH c.h)) ?_) | refine Exists.intro _ (And.intro (and8 (m := byX (byH c.h) + c.b[c.i].toNat) (by omega) (by omega)) ?_) | refine k0 ?_ | refine jA fun _ => ?_ | refine jB fun _ => ?_ | refine kC (fun _ => ?_) fun _ => ?_ | refine jS ?_ | refine jI ?_ | refine jD ?_ | refine ⟨snc, _, snr, ?_⟩ | refine ⟨⟨Nat.le_refl _, rfl⟩, [], rfl, ?_⟩ | refine And.intro ⟨rfl, rfl, by decide, rfl⟩ ?_ | refine jP ?_ | refine jO ?_ | refine jX ?_ | refine jb jr ?_ | refine jb ofs ?_ | refine ko jc ?_ | refine ko jp ?_ | refine jM ?_ | refine kr ?_ | refine ko rfl ?_ | refine And.intro (cs_shal _) ?_ | refine And.intro (rfl : List.all _ _ = true) ?_ | refine And.intro ⟨rfl, (rfl : List.all _ _ = true)⟩ ?_ | exact ⟨rfl, rfl⟩ | exact jV | fail))
  · rw [byC_no hlt]
    repeat' ((conv => whnf); (first | refine And.intro (by decide) (Exists.intro _ (And.intro rfl ?_)) | refine Exists.intro _ (And.intro (andX (h := byH c.h)) ?_) | refine k0 ?_ | refine jA fun _ => ?_ | refine jB fun _ => ?_ | refine kC (fun _ => ?_) fun _ => ?_ | refine jS ?_ | refine jI ?_ | refine jD ?_ | refine ⟨snc, _, snr, ?_⟩ | refine ⟨⟨Nat.le_refl _, rfl⟩, [], rfl, ?_⟩ | refine And.intro ⟨rfl, rfl, by decide, rfl⟩ ?_ | refine jP ?_ | refine jO ?_ | refine jX ?_ | refine jb jr ?_ | refine jb ofs ?_ | refine ko jc ?_ | refine ko jp ?_ | refine jM ?_ | refine kr ?_ | refine ko rfl ?_ | refine And.intro (cs_shal _) ?_ | refine And.intro (rfl : List.all _ _ = true) ?_ | refine And.intro ⟨rfl, (rfl : List.all _ _ = true)⟩ ?_ | exact ⟨rfl, rfl⟩ | exact jV | fail))

theorem cx49 {P : Program} {X : FuncId → List Arg → List (Bool × List Cell) → List (Option (List Cell)) → Prop} {a : List Arg} {Q : List (Bool × List Cell) → List (Option (List Cell)) → Prop} (h : ∃ b vals outs, a = b ∧ D P X (.call 49 b vals outs) ∧ Q vals outs) : CallS P X 49 a Q := ⟨h⟩

set_option maxRecDepth 100000 in
theorem tx30 {c : Cur} {n : Nat} (hc : CurOk c := by first | assumption | omega | (simp; done) | (simp; omega)) (hn : n ≤ 100000000 := by first | assumption | omega | (simp; done) | (simp; omega)) : T 30 [aC c, aI n] [vI (blC c n).1] [some (cuC (blC c n).2), none] := by
  refine w_call md [] Try.func30 rfl ?_
  have h1 := byC_ok hc
  have h2 := byC_ok h1
  have h3 := byC_ok h2
  have l1 := byC_le c
  have l2 := byC_le (byC c).2
  have l3 := byC_le (byC (byC c).2).2
  by_cases h0 : n = 0
  · subst h0
    rw [blC_0]
    repeat' ((conv => whnf); (first | refine k0 ?_ | refine jA fun _ => ?_ | refine jB fun _ => ?_ | refine kC (fun _ => ?_) fun _ => ?_ | refine jS ?_ | refine jI ?_ | (apply cx49; refine kl tx49 ?_) | refine jD ?_ | refine ⟨snc, _, snr, ?_⟩ | refine ⟨⟨Nat.le_refl _, rfl⟩, [], rfl, ?_⟩ | refine And.intro ⟨rfl, rfl, by decide, rfl⟩ ?_ | refine jP ?_ | refine jO ?_ | refine jX ?_ | refine jb jr ?_ | refine jb ofs ?_ | refine ko jc ?_ | refine ko jp ?_ | refine jM ?_ | refine kr ?_ | refine ko rfl ?_ | refine And.intro (cs_shal _) ?_ | refine And.intro (rfl : List.all _ _ = true) ?_ | refine And.intro ⟨rfl, (rfl : List.all _ _ = true)⟩ ?_ | exact ⟨rfl, rfl⟩ | exact jV | fail))
  · by_cases hs : n ≤ 256
    · rw [blC_s h0 hs]
      repeat' ((conv => whnf); (first | (apply cx49; refine kl (tx49 (c := c)) ?_) | refine And.intro (by omega) (Exists.intro (((byC c).1 % n : Nat) : Int) (And.intro (Int.tmod_eq_emod_of_nonneg (by omega)) ?_)) | refine k0 ?_ | refine jA fun _ => ?_ | refine jB fun _ => ?_ | refine kC (fun _ => ?_) fun _ => ?_ | refine jS ?_ | refine jI ?_ | (apply cx49; refine kl tx49 ?_) | refine jD ?_ | refine ⟨snc, _, snr, ?_⟩ | refine ⟨⟨Nat.le_refl _, rfl⟩, [], rfl, ?_⟩ | refine And.intro ⟨rfl, rfl, by decide, rfl⟩ ?_ | refine jP ?_ | refine jO ?_ | refine jX ?_ | refine jb jr ?_ | refine jb ofs ?_ | refine ko jc ?_ | refine ko jp ?_ | refine jM ?_ | refine kr ?_ | refine ko rfl ?_ | refine And.intro (cs_shal _) ?_ | refine And.intro (rfl : List.all _ _ = true) ?_ | refine And.intro ⟨rfl, (rfl : List.all _ _ = true)⟩ ?_ | exact ⟨rfl, rfl⟩ | exact jV | fail))
    · rw [blC_g hs]
      repeat' ((conv => whnf); (first | (apply cx49; refine kl (tx49 (c := c)) ?_) | (apply cx49; refine kl (tx49 (c := (byC c).2)) ?_) | (apply cx49; refine kl (tx49 (c := (byC (byC c).2).2)) ?_) | refine And.intro (by omega) (Exists.intro ((((byC c).1 * 65536 + (byC (byC c).2).1 * 256 + (byC (byC (byC c).2).2).1) % n : Nat) : Int) (And.intro (Int.tmod_eq_emod_of_nonneg (by omega)) ?_)) | refine k0 ?_ | refine jA fun _ => ?_ | refine jB fun _ => ?_ | refine kC (fun _ => ?_) fun _ => ?_ | refine jS ?_ | refine jI ?_ | (apply cx49; refine kl tx49 ?_) | refine jD ?_ | refine ⟨snc, _, snr, ?_⟩ | refine ⟨⟨Nat.le_refl _, rfl⟩, [], rfl, ?_⟩ | refine And.intro ⟨rfl, rfl, by decide, rfl⟩ ?_ | refine jP ?_ | refine jO ?_ | refine jX ?_ | refine jb jr ?_ | refine jb ofs ?_ | refine ko jc ?_ | refine ko jp ?_ | refine jM ?_ | refine kr ?_ | refine ko rfl ?_ | refine And.intro (cs_shal _) ?_ | refine And.intro (rfl : List.all _ _ = true) ?_ | refine And.intro ⟨rfl, (rfl : List.all _ _ = true)⟩ ?_ | exact ⟨rfl, rfl⟩ | exact jV | fail))

theorem cx30 {P : Program} {X : FuncId → List Arg → List (Bool × List Cell) → List (Option (List Cell)) → Prop} {a : List Arg} {Q : List (Bool × List Cell) → List (Option (List Cell)) → Prop} (h : ∃ b vals outs, a = b ∧ D P X (.call 30 b vals outs) ∧ Q vals outs) : CallS P X 30 a Q := ⟨h⟩

set_option maxRecDepth 100000 in
theorem tx17 {c : Cur} {n : Nat} (hc : CurOk c := by first | assumption | omega | (simp; done) | (simp; omega)) (hn : n ≤ 100000000 := by first | assumption | omega | (simp; done) | (simp; omega)) : T 17 [aC c, aI n] [vB (decide ((blC c n).1 = 0))] [some (cuC (blC c n).2), none] := by
  refine w_call md [] Try.func17 rfl ?_
  repeat' ((conv => whnf); (first | (apply cx30; refine kl (tx30 (c := c) (n := n)) ?_) | refine k0 ?_ | refine jA fun _ => ?_ | refine jB fun _ => ?_ | refine kC (fun _ => ?_) fun _ => ?_ | refine jS ?_ | refine jI ?_ | (apply cx30; refine kl tx30 ?_) | refine jD ?_ | refine ⟨snc, _, snr, ?_⟩ | refine ⟨⟨Nat.le_refl _, rfl⟩, [], rfl, ?_⟩ | refine And.intro ⟨rfl, rfl, by decide, rfl⟩ ?_ | refine jP ?_ | refine jO ?_ | refine jX ?_ | refine jb jr ?_ | refine jb ofs ?_ | refine ko jc ?_ | refine ko jp ?_ | refine jM ?_ | refine kr ?_ | refine ko rfl ?_ | refine And.intro (cs_shal _) ?_ | refine And.intro (rfl : List.all _ _ = true) ?_ | refine And.intro ⟨rfl, (rfl : List.all _ _ = true)⟩ ?_ | exact ⟨rfl, rfl⟩ | exact jV | fail))
  all_goals first | exact ⟨by rw [decide_eq_true (by omega)], rfl⟩ | exact ⟨by rw [decide_eq_false (by omega)], rfl⟩

theorem cx17 {P : Program} {X : FuncId → List Arg → List (Bool × List Cell) → List (Option (List Cell)) → Prop} {a : List Arg} {Q : List (Bool × List Cell) → List (Option (List Cell)) → Prop} (h : ∃ b vals outs, a = b ∧ D P X (.call 17 b vals outs) ∧ Q vals outs) : CallS P X 17 a Q := ⟨h⟩

set_option maxRecDepth 100000 in
theorem tx31 {c : Cur} {l : List Int} (hc : CurOk c := by first | assumption | omega | (simp; done) | (simp; omega)) (hl : 0 < l.length ∧ l.length ≤ 1000 := by first | assumption | omega | (simp; done) | (simp; omega)) : T 31 [aC c, aO l] [vI (inC c l).1] [some (cuC (inC c l).2), some (cs true l)] := by
  refine w_call md [] Try.func31 rfl ?_
  have hb := blC_lt (c := c) hl.1
  rw [inC_at hl.1]
  repeat' ((conv => whnf); (first | (apply cx30; refine kl (tx30 (c := c) (n := l.length)) ?_) | refine k0 ?_ | refine jA fun _ => ?_ | refine jB fun _ => ?_ | refine kC (fun _ => ?_) fun _ => ?_ | refine jS ?_ | refine jI ?_ | (apply cx30; refine kl tx30 ?_) | refine jD ?_ | refine ⟨snc, _, snr, ?_⟩ | refine ⟨⟨Nat.le_refl _, rfl⟩, [], rfl, ?_⟩ | refine And.intro ⟨rfl, rfl, by decide, rfl⟩ ?_ | refine jP ?_ | refine jO ?_ | refine jX ?_ | refine jb jr ?_ | refine jb ofs ?_ | refine ko jc ?_ | refine ko jp ?_ | refine jM ?_ | refine kr ?_ | refine ko rfl ?_ | refine And.intro (cs_shal _) ?_ | refine And.intro (rfl : List.all _ _ = true) ?_ | refine And.intro ⟨rfl, (rfl : List.all _ _ = true)⟩ ?_ | exact ⟨rfl, rfl⟩ | exact jV | fail))

theorem cx31 {P : Program} {X : FuncId → List Arg → List (Bool × List Cell) → List (Option (List Cell)) → Prop} {a : List Arg} {Q : List (Bool × List Cell) → List (Option (List Cell)) → Prop} (h : ∃ b vals outs, a = b ∧ D P X (.call 31 b vals outs) ∧ Q vals outs) : CallS P X 31 a Q := ⟨h⟩

set_option maxRecDepth 100000 in
theorem tx50 {c : Cur} {n : Nat} (hc : CurOk c := by first | assumption | omega | (simp; done) | (simp; omega)) (hn : n ≤ 1000 := by first | assumption | omega | (simp; done) | (simp; omega)) : T 50 [aC c, aI n] [vE (bysC c n).1] [some (cuC (bysC c n).2), none] := by
  refine w_call md [] Try.func50 rfl ?_
  repeat' ((conv => whnf); (first | refine k0 ?_ | refine jA fun _ => ?_ | refine jB fun _ => ?_ | refine kC (fun _ => ?_) fun _ => ?_ | refine jS ?_ | refine jI ?_ | (apply cx49; refine kl tx49 ?_) | refine jD ?_ | refine ⟨snc, _, snr, ?_⟩ | refine ⟨⟨Nat.le_refl _, rfl⟩, [], rfl, ?_⟩ | refine And.intro ⟨rfl, rfl, by decide, rfl⟩ ?_ | refine jP ?_ | refine jO ?_ | refine jX ?_ | refine jb jr ?_ | refine jb ofs ?_ | refine ko jc ?_ | refine ko jp ?_ | refine jM ?_ | refine kr ?_ | refine ko rfl ?_ | refine And.intro (cs_shal _) ?_ | refine And.intro (rfl : List.all _ _ = true) ?_ | refine And.intro ⟨rfl, (rfl : List.all _ _ = true)⟩ ?_ | exact ⟨rfl, rfl⟩ | exact jV | fail))
  conv => whnf
  refine loopk (ι := Nat) (fun i => i ≤ n) (fun i => n - i) (0) [0, 1] (fun i => [(5, rE 2 (bysC c i).1), (6, .v false [i6 i])]) [some fun i => (true, cuC (bysC c i).2), none, some fun i => nE (bysC c i).1] ?_
  refine ⟨by omega, ?_, fun i hi => ?_⟩
  · exact jw []
  · have hl := bysC_len (c := c) (n := i)
    have hk := bysC_ok hc (n := i)
    have hb := byC_le (bysC c i).2
    repeat' ((conv => whnf); (first | refine k0 ?_ | refine jS ?_ | refine jI ?_ | (apply cx49; refine kl tx49 ?_) | refine jD ?_ | refine ⟨snc, _, snr, ?_⟩ | refine ⟨⟨Nat.le_refl _, rfl⟩, [], rfl, ?_⟩ | refine And.intro ⟨rfl, rfl, by decide, rfl⟩ ?_ | refine jP ?_ | refine jO ?_ | refine jX ?_ | refine jb jr ?_ | refine jb ofs ?_ | refine ko jc ?_ | refine ko jp ?_ | refine jM ?_ | refine kr ?_ | refine ko rfl ?_ | refine And.intro (cs_shal _) ?_ | refine And.intro (rfl : List.all _ _ = true) ?_ | refine And.intro ⟨rfl, (rfl : List.all _ _ = true)⟩ ?_ | exact ⟨rfl, rfl⟩ | exact jV | fail))
    conv => whnf
    refine ⟨fun hlt => ?_, fun hge => ?_⟩
    · repeat' ((conv => whnf); (first | (apply cx49; refine kl (tx49 (c := (bysC c i).2)) ?_) | refine jap (apB ?_) | refine Exists.intro _ (And.intro (u8n _) ?_) | refine k0 ?_ | refine jA fun _ => ?_ | refine jB fun _ => ?_ | refine kC (fun _ => ?_) fun _ => ?_ | refine jS ?_ | refine jI ?_ | (apply cx49; refine kl tx49 ?_) | refine jD ?_ | refine ⟨snc, _, snr, ?_⟩ | refine ⟨⟨Nat.le_refl _, rfl⟩, [], rfl, ?_⟩ | refine And.intro ⟨rfl, rfl, by decide, rfl⟩ ?_ | refine jP ?_ | refine jO ?_ | refine jX ?_ | refine jb jr ?_ | refine jb ofs ?_ | refine ko jc ?_ | refine ko jp ?_ | refine jM ?_ | refine kr ?_ | refine ko rfl ?_ | refine And.intro (cs_shal _) ?_ | refine And.intro (rfl : List.all _ _ = true) ?_ | refine And.intro ⟨rfl, (rfl : List.all _ _ = true)⟩ ?_ | exact ⟨rfl, rfl⟩ | exact jV | fail))
      have hl2 := bysC_len (c := c) (n := i + 1)
      refine ⟨⟨i + 1, by omega⟩, by simp only; omega, ?_⟩
      exact jw []
    · obtain rfl : i = n := by omega
      repeat' ((conv => whnf); (first | refine k0 ?_ | refine jA fun _ => ?_ | refine jB fun _ => ?_ | refine kC (fun _ => ?_) fun _ => ?_ | refine jS ?_ | refine jI ?_ | (apply cx49; refine kl tx49 ?_) | refine jD ?_ | refine ⟨snc, _, snr, ?_⟩ | refine ⟨⟨Nat.le_refl _, rfl⟩, [], rfl, ?_⟩ | refine And.intro ⟨rfl, rfl, by decide, rfl⟩ ?_ | refine jP ?_ | refine jO ?_ | refine jX ?_ | refine jb jr ?_ | refine jb ofs ?_ | refine ko jc ?_ | refine ko jp ?_ | refine jM ?_ | refine kr ?_ | refine ko rfl ?_ | refine And.intro (cs_shal _) ?_ | refine And.intro (rfl : List.all _ _ = true) ?_ | refine And.intro ⟨rfl, (rfl : List.all _ _ = true)⟩ ?_ | exact ⟨rfl, rfl⟩ | exact jV | fail))

theorem cx50 {P : Program} {X : FuncId → List Arg → List (Bool × List Cell) → List (Option (List Cell)) → Prop} {a : List Arg} {Q : List (Bool × List Cell) → List (Option (List Cell)) → Prop} (h : ∃ b vals outs, a = b ∧ D P X (.call 50 b vals outs) ∧ Q vals outs) : CallS P X 50 a Q := ⟨h⟩

attribute [local irreducible] byC blC inC bysC bdC anC

set_option maxRecDepth 100000 in
theorem tx32 {c : Cur} (hc : CurOk c := by first | assumption | omega | (simp; done) | (simp; omega)) : T 32 [aC c] [vE (smC c).1] [some (cuC (smC c).2)] := by
  refine w_call md [] Try.func32 rfl ?_
  have hs := sm_b (c := c)
  have h1 := inC_ok (l := [0, 1, 2, 5, 9]) hc
  obtain ⟨k, hk⟩ : ∃ k : Nat, (inC c [0, 1, 2, 5, 9]).1 = k := ⟨_, (Int.toNat_of_nonneg hs.1).symm⟩
  have e : smC c = bysC (inC c [0, 1, 2, 5, 9]).2 k := by unfold smC; rw [hk]; rfl
  rw [e]
  have hB : T 50 [aC (inC c [0, 1, 2, 5, 9]).2, aI (inC c [0, 1, 2, 5, 9]).1] [vE (bysC (inC c [0, 1, 2, 5, 9]).2 k).1] [some (cuC (bysC (inC c [0, 1, 2, 5, 9]).2 k).2), none] := by
    have h := tx50 (c := (inC c [0, 1, 2, 5, 9]).2) (n := k) h1 (by omega)
    rw [← hk] at h; exact h
  repeat' ((conv => whnf); (first | (apply cx31; refine kl (tx31 (c := c) (l := [0, 1, 2, 5, 9])) ?_) | refine And.intro ⟨rfl, rfl, rfl⟩ ?_ | (apply cx50; refine kl (hB) ?_) | refine k0 ?_ | refine jA fun _ => ?_ | refine jB fun _ => ?_ | refine kC (fun _ => ?_) fun _ => ?_ | refine jS ?_ | refine jI ?_ | (apply cx31; refine kl tx31 ?_) | (apply cx50; refine kl tx50 ?_) | refine jD ?_ | refine ⟨snc, _, snr, ?_⟩ | refine ⟨⟨Nat.le_refl _, rfl⟩, [], rfl, ?_⟩ | refine And.intro ⟨rfl, rfl, by decide, rfl⟩ ?_ | refine jP ?_ | refine jO ?_ | refine jX ?_ | refine jb jr ?_ | refine jb ofs ?_ | refine ko jc ?_ | refine ko jp ?_ | refine jM ?_ | refine kr ?_ | refine ko rfl ?_ | refine And.intro (cs_shal _) ?_ | refine And.intro (rfl : List.all _ _ = true) ?_ | refine And.intro ⟨rfl, (rfl : List.all _ _ = true)⟩ ?_ | exact ⟨rfl, rfl⟩ | exact jV | fail))

theorem cx32 {P : Program} {X : FuncId → List Arg → List (Bool × List Cell) → List (Option (List Cell)) → Prop} {a : List Arg} {Q : List (Bool × List Cell) → List (Option (List Cell)) → Prop} (h : ∃ b vals outs, a = b ∧ D P X (.call 32 b vals outs) ∧ Q vals outs) : CallS P X 32 a Q := ⟨h⟩

set_option maxRecDepth 100000 in
theorem tx16 {c : Cur} (hc : CurOk c := by first | assumption | omega | (simp; done) | (simp; omega)) : T 16 [aC c] [(true, metC (mtC c).1)] [some (cuC (mtC c).2)] := by
  refine w_call md [] Try.func16 rfl ?_
  have h1 := inC_ok (l := [0, 1, 2, 3, 300, 1000000]) hc
  repeat' ((conv => whnf); (first | (apply cx31; refine kl (tx31 (c := c) (l := [0, 1, 2, 3, 300, 1000000])) ?_) | (apply cx31; refine kl (tx31 (c := (inC c [0, 1, 2, 3, 300, 1000000]).2) (l := [0, 2, 9, 47])) ?_) | refine And.intro ⟨rfl, rfl, rfl⟩ ?_ | refine k0 ?_ | refine jA fun _ => ?_ | refine jB fun _ => ?_ | refine kC (fun _ => ?_) fun _ => ?_ | refine jS ?_ | refine jI ?_ | (apply cx31; refine kl tx31 ?_) | refine jD ?_ | refine ⟨snc, _, snr, ?_⟩ | refine ⟨⟨Nat.le_refl _, rfl⟩, [], rfl, ?_⟩ | refine And.intro ⟨rfl, rfl, by decide, rfl⟩ ?_ | refine jP ?_ | refine jO ?_ | refine jX ?_ | refine jb jr ?_ | refine jb ofs ?_ | refine ko jc ?_ | refine ko jp ?_ | refine jM ?_ | refine kr ?_ | refine ko rfl ?_ | refine And.intro (cs_shal _) ?_ | refine And.intro (rfl : List.all _ _ = true) ?_ | refine And.intro ⟨rfl, (rfl : List.all _ _ = true)⟩ ?_ | exact ⟨rfl, rfl⟩ | exact jV | fail))

theorem cx16 {P : Program} {X : FuncId → List Arg → List (Bool × List Cell) → List (Option (List Cell)) → Prop} {a : List Arg} {Q : List (Bool × List Cell) → List (Option (List Cell)) → Prop} (h : ∃ b vals outs, a = b ∧ D P X (.call 16 b vals outs) ∧ Q vals outs) : CallS P X 16 a Q := ⟨h⟩

attribute [local irreducible] mtC

set_option maxRecDepth 100000 in
theorem tx13 {b : List UInt8} (hb : b.length ≤ 1048576 := by first | assumption | omega | (simp; done) | (simp; omega)) : T 13 [aE b] [(false, [.op (cuC (nwC b))])] [none] := by
  refine w_call md [] Try.func13 rfl ?_
  repeat' ((conv => whnf); (first | refine k0 ?_ | refine jA fun _ => ?_ | refine jB fun _ => ?_ | refine kC (fun _ => ?_) fun _ => ?_ | refine jS ?_ | refine jI ?_ | refine jD ?_ | refine ⟨snc, _, snr, ?_⟩ | refine ⟨⟨Nat.le_refl _, rfl⟩, [], rfl, ?_⟩ | refine And.intro ⟨rfl, rfl, by decide, rfl⟩ ?_ | refine jP ?_ | refine jO ?_ | refine jX ?_ | refine jb jr ?_ | refine jb ofs ?_ | refine ko jc ?_ | refine ko jp ?_ | refine jM ?_ | refine kr ?_ | refine ko rfl ?_ | refine And.intro (cs_shal _) ?_ | refine And.intro (rfl : List.all _ _ = true) ?_ | refine And.intro ⟨rfl, (rfl : List.all _ _ = true)⟩ ?_ | exact ⟨rfl, rfl⟩ | exact jV | fail))
  conv => whnf
  refine loopk (ι := Nat) (fun i => i ≤ min b.length 4000) (fun i => min b.length 4000 - i) (0) [0] (fun i => [(3, .v false [i6 (hN b i : Nat)]), (4, .v false [i6 i])]) [none] ?_
  refine ⟨by omega, ?_, fun i hi => ?_⟩
  · exact jw []
  · have hh := hN_le hb (i := i)
    repeat' ((conv => whnf); (first | refine k0 ?_ | refine jS ?_ | refine jI ?_ | refine jD ?_ | refine ⟨snc, _, snr, ?_⟩ | refine ⟨⟨Nat.le_refl _, rfl⟩, [], rfl, ?_⟩ | refine And.intro ⟨rfl, rfl, by decide, rfl⟩ ?_ | refine jP ?_ | refine jO ?_ | refine jX ?_ | refine jb jr ?_ | refine jb ofs ?_ | refine ko jc ?_ | refine ko jp ?_ | refine jM ?_ | refine kr ?_ | refine ko rfl ?_ | refine And.intro (cs_shal _) ?_ | refine And.intro (rfl : List.all _ _ = true) ?_ | refine And.intro ⟨rfl, (rfl : List.all _ _ = true)⟩ ?_ | exact ⟨rfl, rfl⟩ | exact jV | fail))
    conv => whnf
    refine ⟨fun hlt => ?_, fun hge => ?_⟩
    · repeat' ((conv => whnf); (first | refine k0 ?_ | refine jS ?_ | refine jI ?_ | refine jD ?_ | refine ⟨snc, _, snr, ?_⟩ | refine ⟨⟨Nat.le_refl _, rfl⟩, [], rfl, ?_⟩ | refine And.intro ⟨rfl, rfl, by decide, rfl⟩ ?_ | refine jP ?_ | refine jO ?_ | refine jX ?_ | refine jb jr ?_ | refine jb ofs ?_ | refine ko jc ?_ | refine ko jp ?_ | refine jM ?_ | refine kr ?_ | refine ko rfl ?_ | refine And.intro (cs_shal _) ?_ | refine And.intro (rfl : List.all _ _ = true) ?_ | refine And.intro ⟨rfl, (rfl : List.all _ _ = true)⟩ ?_ | exact ⟨rfl, rfl⟩ | exact jV | fail))
      conv => whnf
      refine ⟨fun h2 => ?_, fun h2 => ?_⟩
      · have hi2 : i < b.length := by omega
        have hs := hN_suc hi2
        have hu := UInt8.toNat_lt b[i]
        repeat' ((conv => whnf); (first | refine Exists.intro _ (And.intro (and30 (m := hN b i * 137 + b[i].toNat + 11) (by omega) (by omega)) ?_) | refine k0 ?_ | refine jA fun _ => ?_ | refine jB fun _ => ?_ | refine kC (fun _ => ?_) fun _ => ?_ | refine jS ?_ | refine jI ?_ | refine jD ?_ | refine ⟨snc, _, snr, ?_⟩ | refine ⟨⟨Nat.le_refl _, rfl⟩, [], rfl, ?_⟩ | refine And.intro ⟨rfl, rfl, by decide, rfl⟩ ?_ | refine jP ?_ | refine jO ?_ | refine jX ?_ | refine jb jr ?_ | refine jb ofs ?_ | refine ko jc ?_ | refine ko jp ?_ | refine jM ?_ | refine kr ?_ | refine ko rfl ?_ | refine And.intro (cs_shal _) ?_ | refine And.intro (rfl : List.all _ _ = true) ?_ | refine And.intro ⟨rfl, (rfl : List.all _ _ = true)⟩ ?_ | exact ⟨rfl, rfl⟩ | exact jV | fail))
        refine ⟨⟨i + 1, by omega⟩, by simp only; omega, ?_⟩
        exact w_autoX [] (by (conv => whnf); exact And.intro (by kernel_rfl) (And.intro (by kernel_rfl) (by repeat' (first | (with_reducible exact rfl) | ((conv => whnf); first | exact trivial | exact tvi (by rw [hs]) | exact rfl | exact tvi (by first | omega | (dsimp only; omega) | (simp; done)) | exact tvr (by first | omega | (dsimp only; omega) | (simp; done) | (simp; omega)) | exact ⟨rfl, clo_i, by first | rfl | rw [List.take_length] | assumption⟩ | refine And.intro ?_ ?_)))))
      · obtain rfl : i = min b.length 4000 := by omega
        repeat' ((conv => whnf); (first | refine And.intro ⟨rfl, rfl, rfl⟩ ?_ | refine k0 ?_ | refine jA fun _ => ?_ | refine jB fun _ => ?_ | refine kC (fun _ => ?_) fun _ => ?_ | refine jS ?_ | refine jI ?_ | refine jD ?_ | refine ⟨snc, _, snr, ?_⟩ | refine ⟨⟨Nat.le_refl _, rfl⟩, [], rfl, ?_⟩ | refine And.intro ⟨rfl, rfl, by decide, rfl⟩ ?_ | refine jP ?_ | refine jO ?_ | refine jX ?_ | refine jb jr ?_ | refine jb ofs ?_ | refine ko jc ?_ | refine ko jp ?_ | refine jM ?_ | refine kr ?_ | refine ko rfl ?_ | refine And.intro (cs_shal _) ?_ | refine And.intro (rfl : List.all _ _ = true) ?_ | refine And.intro ⟨rfl, (rfl : List.all _ _ = true)⟩ ?_ | exact ⟨rfl, rfl⟩ | exact jV | fail))
    · obtain rfl : i = min b.length 4000 := by omega
      repeat' ((conv => whnf); (first | refine And.intro ⟨rfl, rfl, rfl⟩ ?_ | refine k0 ?_ | refine jA fun _ => ?_ | refine jB fun _ => ?_ | refine kC (fun _ => ?_) fun _ => ?_ | refine jS ?_ | refine jI ?_ | refine jD ?_ | refine ⟨snc, _, snr, ?_⟩ | refine ⟨⟨Nat.le_refl _, rfl⟩, [], rfl, ?_⟩ | refine And.intro ⟨rfl, rfl, by decide, rfl⟩ ?_ | refine jP ?_ | refine jO ?_ | refine jX ?_ | refine jb jr ?_ | refine jb ofs ?_ | refine ko jc ?_ | refine ko jp ?_ | refine jM ?_ | refine kr ?_ | refine ko rfl ?_ | refine And.intro (cs_shal _) ?_ | refine And.intro (rfl : List.all _ _ = true) ?_ | refine And.intro ⟨rfl, (rfl : List.all _ _ = true)⟩ ?_ | exact ⟨rfl, rfl⟩ | exact jV | fail))

theorem cx13 {P : Program} {X : FuncId → List Arg → List (Bool × List Cell) → List (Option (List Cell)) → Prop} {a : List Arg} {Q : List (Bool × List Cell) → List (Option (List Cell)) → Prop} (h : ∃ b vals outs, a = b ∧ D P X (.call 13 b vals outs) ∧ Q vals outs) : CallS P X 13 a Q := ⟨h⟩

theorem sl_r0 {id off n s k : Nat} (h0 : k = 0) : sliceT (.ref id off n s) s 0 k = some (.sl false 0 s []) := by subst h0; simp [sliceT]
theorem sl_rk {id off n s k : Nat} (h : k ≤ n) (h0 : ¬ k = 0) : sliceT (.ref id off n s) s 0 k = some (.ref id (off + 0 * s) (k - 0) s) := by
  unfold sliceT
  rw [if_pos (Nat.zero_le _)]
  show (if k ≤ n ∧ s = s then _ else _) = _
  rw [if_pos ⟨h, rfl⟩, if_neg (fun e => h0 e.symm)]
theorem csk {xs : List UInt8} {k : Nat} (h : k ≤ xs.length) : ((cs false xs).drop (0 + 0 * 1)).take ((k - 0) * 1) = cs false (xs.take k) := by
  have := cs_drop0 (α := UInt8) (o := false) (xs := xs) (show 0 + k ≤ xs.length by omega)
  simpa using this
theorem snk {xs : List UInt8} {k : Nat} (h : k ≤ xs.length) : (0 + 0 * 1) + (k - 0) * 1 ≤ (cs false xs).length ∧ (((cs false xs).drop (0 + 0 * 1)).take ((k - 0) * 1)).all Cell.shal = true :=
  ⟨by rw [cs_len]; show _ ≤ xs.length * 1; omega, by rw [csk h]; exact cs_shal _⟩
theorem ltk {b : List UInt8} {k : Nat} (h : k ≤ b.length) : (b.take k).length = k := by rw [List.length_take, Nat.min_eq_left h]
theorem lset {b : List UInt8} {i : Nat} {y : UInt8} : (b.set i y).length = b.length := List.length_set
theorem csS {xs : List UInt8} {i : Nat} {y : UInt8} : ((cs false (xs.set i y)).drop 0).take (xs.length * sz UInt8) = cs false (xs.set i y) := by
  have := cs_whole (o := false) (xs := xs.set i y)
  rwa [List.length_set] at this
theorem snS {xs : List UInt8} {i : Nat} {y : UInt8} : 0 + xs.length * sz UInt8 ≤ (cs false (xs.set i y)).length ∧ (((cs false (xs.set i y)).drop 0).take (xs.length * sz UInt8)).all Cell.shal = true :=
  ⟨by rw [cs_len, List.length_set]; omega, by rw [csS]; exact cs_shal _⟩

set_option maxRecDepth 100000 in
theorem tx18 {c : Cur} {b : List UInt8} (hc : CurOk c := by first | assumption | omega | (simp; done) | (simp; omega)) (hb : b.length ≤ 1000 := by first | assumption | omega | (simp; done) | (simp; omega)) : T 18 [aC c, aO b] [(false, [slE false (bdC c b).1])] [some (cuC (bdC c b).2), none] := by
  refine w_call md [] Try.func18 rfl ?_
  by_cases h0 : b.length = 0
  · rw [bdC_e h0]
    repeat' ((conv => whnf); (first | refine bstep (w_frz 1 (b)) ?_ | refine ⟨snc, _, cs_whole, ?_⟩ | refine k0 ?_ | refine jA fun _ => ?_ | refine jB fun _ => ?_ | refine kC (fun _ => ?_) fun _ => ?_ | refine jS ?_ | refine jI ?_ | (apply cx30; refine kl tx30 ?_) | (apply cx31; refine kl tx31 ?_) | refine jD ?_ | refine ⟨snc, _, snr, ?_⟩ | refine ⟨⟨Nat.le_refl _, rfl⟩, [], rfl, ?_⟩ | refine And.intro ⟨rfl, rfl, by decide, rfl⟩ ?_ | refine jP ?_ | refine jO ?_ | refine jX ?_ | refine jb jr ?_ | refine jb ofs ?_ | refine ko jc ?_ | refine ko jp ?_ | refine jM ?_ | refine kr ?_ | refine ko rfl ?_ | refine And.intro (cs_shal _) ?_ | refine And.intro (rfl : List.all _ _ = true) ?_ | refine And.intro ⟨rfl, (rfl : List.all _ _ = true)⟩ ?_ | exact ⟨rfl, rfl⟩ | exact jV | fail))
  · have h5 := blC_ok (n := 5) hc
    have hlb := blC_lt (c := (blC c 5).2) (n := b.length) (by omega)
    have hok := blC_ok (n := b.length) h5
    by_cases c0 : (blC c 5).1 = 0
    · rw [bdC_0 h0 c0]
      have hm := inC_mem (c := (blC (blC c 5).2 b.length).2) (l := [0, 1, 2, 127, 128, 255]) (by decide)
      obtain ⟨k, hk⟩ : ∃ k : Nat, (inC (blC (blC c 5).2 b.length).2 [0, 1, 2, 127, 128, 255]).1 = k := ⟨_, (Int.toNat_of_nonneg (by simp only [List.mem_cons, List.mem_nil_iff, or_false] at hm; omega)).symm⟩
      have hI : T 31 [aC (blC (blC c 5).2 b.length).2, aO ([0, 1, 2, 127, 128, 255] : List Int)] [vI (k : Int)] [some (cuC (inC (blC (blC c 5).2 b.length).2 [0, 1, 2, 127, 128, 255]).2), some (cs true ([0, 1, 2, 127, 128, 255] : List Int))] := by
        have h := tx31 (c := (blC (blC c 5).2 b.length).2) (l := [0, 1, 2, 127, 128, 255]) hok (by decide)
        rw [hk] at h; exact h
      rw [hk, Int.toNat_natCast]
      repeat' ((conv => whnf); (first | refine bstep (w_frz 1 (b.set (blC (blC c 5).2 b.length).1 (UInt8.ofNat k))) ?_ | (apply cx30; refine kl (tx30 (c := c) (n := 5)) ?_) | (apply cx30; refine kl (tx30 (c := (blC c 5).2) (n := b.length)) ?_) | (apply cx31; refine kl (hI) ?_) | refine And.intro ⟨rfl, rfl, rfl⟩ ?_ | refine Exists.intro _ (And.intro (u8n _) ?_) | refine ⟨snS, _, csS, ?_⟩ | refine k0 ?_ | refine jA fun _ => ?_ | refine jB fun _ => ?_ | refine kC (fun _ => ?_) fun _ => ?_ | refine jS ?_ | refine jI ?_ | (apply cx30; refine kl tx30 ?_) | (apply cx31; refine kl tx31 ?_) | refine jD ?_ | refine ⟨snc, _, snr, ?_⟩ | refine ⟨⟨Nat.le_refl _, rfl⟩, [], rfl, ?_⟩ | refine And.intro ⟨rfl, rfl, by decide, rfl⟩ ?_ | refine jP ?_ | refine jO ?_ | refine jX ?_ | refine jb jr ?_ | refine jb ofs ?_ | refine ko jc ?_ | refine ko jp ?_ | refine jM ?_ | refine kr ?_ | refine ko rfl ?_ | refine And.intro (cs_shal _) ?_ | refine And.intro (rfl : List.all _ _ = true) ?_ | refine And.intro ⟨rfl, (rfl : List.all _ _ = true)⟩ ?_ | exact ⟨rfl, rfl⟩ | exact jV | fail))
      exact ⟨congrArg (fun m => [(false, [Cell.sl false m 1 (cs false (b.set (blC (blC c 5).2 b.length).1 (UInt8.ofNat k)))])]) (lset (b := b)).symm, rfl⟩
    · by_cases c1 : (blC c 5).1 = 1
      · rw [bdC_1 h0 c1]
        repeat' ((conv => whnf); (first | refine bstep (w_frz 3 (b ++ [3])) ?_ | (apply cx30; refine kl (tx30 (c := c) (n := 5)) ?_) | refine jap (N := cs true ([3] : List UInt8)) (apE ?_) | refine ⟨snc, _, cs_whole, ?_⟩ | refine k0 ?_ | refine jA fun _ => ?_ | refine jB fun _ => ?_ | refine kC (fun _ => ?_) fun _ => ?_ | refine jS ?_ | refine jI ?_ | (apply cx30; refine kl tx30 ?_) | (apply cx31; refine kl tx31 ?_) | refine jD ?_ | refine ⟨snc, _, snr, ?_⟩ | refine ⟨⟨Nat.le_refl _, rfl⟩, [], rfl, ?_⟩ | refine And.intro ⟨rfl, rfl, by decide, rfl⟩ ?_ | refine jP ?_ | refine jO ?_ | refine jX ?_ | refine jb jr ?_ | refine jb ofs ?_ | refine ko jc ?_ | refine ko jp ?_ | refine jM ?_ | refine kr ?_ | refine ko rfl ?_ | refine And.intro (cs_shal _) ?_ | refine And.intro (rfl : List.all _ _ = true) ?_ | refine And.intro ⟨rfl, (rfl : List.all _ _ = true)⟩ ?_ | exact ⟨rfl, rfl⟩ | exact jV | fail))
      · by_cases c2 : (blC c 5).1 = 2
        · rw [bdC_2 h0 c2]
          by_cases ck : (blC (blC c 5).2 b.length).1 = 0
          · repeat' ((conv => whnf); (first | refine bstep (w_frz 1 (b)) ?_ | (apply cx30; refine kl (tx30 (c := c) (n := 5)) ?_) | (apply cx30; refine kl (tx30 (c := (blC c 5).2) (n := b.length)) ?_) | refine Exists.intro _ (Exists.intro _ (Exists.intro _ (And.intro rfl (And.intro bndN (And.intro (sl_r0 ck) ?_))))) | refine k0 ?_ | refine jA fun _ => ?_ | refine jB fun _ => ?_ | refine kC (fun _ => ?_) fun _ => ?_ | refine jS ?_ | refine jI ?_ | (apply cx30; refine kl tx30 ?_) | (apply cx31; refine kl tx31 ?_) | refine jD ?_ | refine ⟨snc, _, snr, ?_⟩ | refine ⟨⟨Nat.le_refl _, rfl⟩, [], rfl, ?_⟩ | refine And.intro ⟨rfl, rfl, by decide, rfl⟩ ?_ | refine jP ?_ | refine jO ?_ | refine jX ?_ | refine jb jr ?_ | refine jb ofs ?_ | refine ko jc ?_ | refine ko jp ?_ | refine jM ?_ | refine kr ?_ | refine ko rfl ?_ | refine And.intro (cs_shal _) ?_ | refine And.intro (rfl : List.all _ _ = true) ?_ | refine And.intro ⟨rfl, (rfl : List.all _ _ = true)⟩ ?_ | exact ⟨rfl, rfl⟩ | exact jV | fail))
            exact ⟨by rw [ck, List.take_zero]; rfl, rfl⟩
          repeat' ((conv => whnf); (first | refine bstep (w_frz 1 (b)) ?_ | (apply cx30; refine kl (tx30 (c := c) (n := 5)) ?_) | (apply cx30; refine kl (tx30 (c := (blC c 5).2) (n := b.length)) ?_) | refine Exists.intro _ (Exists.intro _ (Exists.intro _ (And.intro rfl (And.intro bndN (And.intro (sl_rk (by omega) ck) ?_))))) | refine ⟨snk (by omega), _, csk (by omega), ?_⟩ | refine k0 ?_ | refine jA fun _ => ?_ | refine jB fun _ => ?_ | refine kC (fun _ => ?_) fun _ => ?_ | refine jS ?_ | refine jI ?_ | (apply cx30; refine kl tx30 ?_) | (apply cx31; refine kl tx31 ?_) | refine jD ?_ | refine ⟨snc, _, snr, ?_⟩ | refine ⟨⟨Nat.le_refl _, rfl⟩, [], rfl, ?_⟩ | refine And.intro ⟨rfl, rfl, by decide, rfl⟩ ?_ | refine jP ?_ | refine jO ?_ | refine jX ?_ | refine jb jr ?_ | refine jb ofs ?_ | refine ko jc ?_ | refine ko jp ?_ | refine jM ?_ | refine kr ?_ | refine ko rfl ?_ | refine And.intro (cs_shal _) ?_ | refine And.intro (rfl : List.all _ _ = true) ?_ | refine And.intro ⟨rfl, (rfl : List.all _ _ = true)⟩ ?_ | exact ⟨rfl, rfl⟩ | exact jV | fail))
          exact ⟨congrArg (fun m => [(false, [Cell.sl false m 1 (cs false (b.take (blC (blC c 5).2 b.length).1))])]) (ltk (Nat.le_of_lt hlb)).symm, rfl⟩
        · rw [bdC_3 h0 c0 c1 c2]
          repeat' ((conv => whnf); (first | refine bstep (w_frz 1 (b)) ?_ | (apply cx30; refine kl (tx30 (c := c) (n := 5)) ?_) | refine ⟨snc, _, cs_whole, ?_⟩ | refine k0 ?_ | refine jA fun _ => ?_ | refine jB fun _ => ?_ | refine kC (fun _ => ?_) fun _ => ?_ | refine jS ?_ | refine jI ?_ | (apply cx30; refine kl tx30 ?_) | (apply cx31; refine kl tx31 ?_) | refine jD ?_ | refine ⟨snc, _, snr, ?_⟩ | refine ⟨⟨Nat.le_refl _, rfl⟩, [], rfl, ?_⟩ | refine And.intro ⟨rfl, rfl, by decide, rfl⟩ ?_ | refine jP ?_ | refine jO ?_ | refine jX ?_ | refine jb jr ?_ | refine jb ofs ?_ | refine ko jc ?_ | refine ko jp ?_ | refine jM ?_ | refine kr ?_ | refine ko rfl ?_ | refine And.intro (cs_shal _) ?_ | refine And.intro (rfl : List.all _ _ = true) ?_ | refine And.intro ⟨rfl, (rfl : List.all _ _ = true)⟩ ?_ | exact ⟨rfl, rfl⟩ | exact jV | fail))

theorem cx18 {P : Program} {X : FuncId → List Arg → List (Bool × List Cell) → List (Option (List Cell)) → Prop} {a : List Arg} {Q : List (Bool × List Cell) → List (Option (List Cell)) → Prop} (h : ∃ b vals outs, a = b ∧ D P X (.call 18 b vals outs) ∧ Q vals outs) : CallS P X 18 a Q := ⟨h⟩

/-- The bytes of a drawn root. -/
def dgC (b : List UInt8) : List UInt8 :=
  if (blC (nwC b) 6).1 = 0 then ptP 2 (smC (blC (nwC b) 6).2).1 else (bdC (mtC (blC (nwC b) 6).2).2 (ptM (mtC (blC (nwC b) 6).2).1)).1
theorem dgC_y {b : List UInt8} (h : (blC (nwC b) 6).1 = 0) : dgC b = ptP 2 (smC (blC (nwC b) 6).2).1 := if_pos h
theorem dgC_n {b : List UInt8} (h : ¬ (blC (nwC b) 6).1 = 0) : dgC b = (bdC (mtC (blC (nwC b) 6).2).2 (ptM (mtC (blC (nwC b) 6).2).1)).1 := if_neg h
attribute [local irreducible] smC ptM ptP

end Go.Proofs.Ytmphoefccibibaa
