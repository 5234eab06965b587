/- Functions of the program, each with what it gives back. -/
import Derived.Test.YtmphoefccibibaaKe
import Derived.Test.YtmphoefccibibaaChecked
import Derived.IntWalk
import Derived.Test.YtmphoefccibibaaFs
namespace Go.Proofs.Ytmphoefccibibaa
open Go Go.RowKit Go.IntWalk
open Enc (sz cs)
attribute [local irreducible] IntKind.wrap

/-! ### Writing to a disk -/
/-- The fault of the next operation. -/
def fltD (d : Dsk) : Option Fau := d.faults.find? (fun f => decide (f.pos = d.ops))
theorem fltD_at {d : Dsk} {i : Nat} (hi : i < d.faults.length) (h : d.faults[i].pos = d.ops) (hn : ∀ j (hj : j < d.faults.length), j < i → d.faults[j].pos ≠ d.ops) : fltD d = some d.faults[i] := by
  have key : ∀ (l : List Fau) (i : Nat) (hi : i < l.length), l[i].pos = d.ops → (∀ j (hj : j < l.length), j < i → l[j].pos ≠ d.ops) → l.find? (fun f => decide (f.pos = d.ops)) = some l[i] := by
    intro l
    induction l with
    | nil => intro i hi; simp at hi
    | cons f l ih =>
      intro i hi h hn
      cases i with
      | zero => simp only [List.getElem_cons_zero] at h ⊢; rw [List.find?_cons_of_pos (by simp [h])]
      | succ i =>
        have h0 := hn 0 (by simp) (by omega)
        simp only [List.getElem_cons_zero] at h0
        rw [List.find?_cons_of_neg (by simp [h0])]
        exact ih i (by simpa using hi) (by simpa using h) fun j hj hl => by have := hn (j + 1) (by simp; omega) (by omega); simpa using this
  exact key _ i hi h hn
theorem fltD_no {d : Dsk} (hn : ∀ j (hj : j < d.faults.length), d.faults[j].pos ≠ d.ops) : fltD d = none := by
  unfold fltD
  rw [List.find?_eq_none]
  intro f hf
  obtain ⟨j, hj, rfl⟩ := List.getElem_of_mem hf
  simp [hn j hj]
/-- A bit of what a fault keeps, as the program has it. -/
def bitK (keep : Int) (i : Nat) : Bool := decide (IntKind.wrap .i64 ((BitVec.ofInt 64 (keep.fdiv (2 ^ min i 64)) &&& BitVec.ofInt 64 1).toNat : Nat) = 1)
/-- What is kept of the first `i` writes. -/
def kpI (keep : Int) (l : List Wri) : Nat → List Wri
  | 0 => []
  | i + 1 => match l[i]? with
    | some w => if i < 20 ∧ bitK keep i = true then kpI keep l i ++ [w] else kpI keep l i
    | none => kpI keep l i
theorem kpI_yes {keep : Int} {l : List Wri} {i : Nat} (hi : i < l.length) (h : i < 20) (hb : bitK keep i = true) : kpI keep l (i + 1) = kpI keep l i ++ [l[i]] := by
  rw [kpI, List.getElem?_eq_getElem hi]; exact if_pos ⟨h, hb⟩
theorem kpI_no {keep : Int} {l : List Wri} {i : Nat} (h : ¬ (i < 20 ∧ bitK keep i = true)) : kpI keep l (i + 1) = kpI keep l i := by
  rw [kpI]
  split
  · exact if_neg h
  · rfl
theorem kpI_len {keep : Int} {l : List Wri} : ∀ {i : Nat}, (kpI keep l i).length ≤ i
  | 0 => by simp [kpI]
  | i + 1 => by
    have := kpI_len (keep := keep) (l := l) (i := i)
    rw [kpI]
    split
    · split
      · simp; omega
      · omega
    · omega
theorem kpI_mem {keep : Int} {l : List Wri} : ∀ {i : Nat} {w : Wri}, w ∈ kpI keep l i → w ∈ l
  | 0, w, h => by cases h
  | i + 1, w, h => by
    rw [kpI] at h
    split at h
    · rename_i v hv
      split at h
      · rcases List.mem_append.1 h with h | h
        · exact kpI_mem h
        · obtain rfl := List.mem_singleton.1 h
          exact List.mem_of_getElem? hv
      · exact kpI_mem h
    · exact kpI_mem h
/-- The last write is cut. -/
def trL (cut : Int) (l : List Wri) : List Wri := match l.getLast? with
  | some w => l.dropLast ++ [⟨w.n, w.b.take cut.toNat⟩]
  | none => []
/-- All writes come into their sectors. -/
def stl (secs : List (List UInt8)) (l : List Wri) : List (List UInt8) := l.foldl (fun s w => s.set w.n.toNat w.b) secs
theorem stl_take {secs : List (List UInt8)} {l : List Wri} {i : Nat} (h : i < l.length) : stl secs (l.take (i + 1)) = (stl secs (l.take i)).set l[i].n.toNat l[i].b := by
  unfold stl; rw [take_one h, List.foldl_append]; rfl
theorem stl_len {secs : List (List UInt8)} : ∀ {l : List Wri}, (stl secs l).length = secs.length := by
  intro l
  unfold stl
  induction l generalizing secs with
  | nil => rfl
  | cons w l ih => rw [List.foldl_cons, ih]; simp
/-- The power goes. -/
def losD (d : Dsk) (f : Fau) : Dsk := { d with secs := stl d.secs (trL f.cut (kpI f.keep d.cache d.cache.length)), cache := [], down := true }
/-- The last write that is kept. -/
def lstI (keep : Int) : Nat → Int
  | 0 => -1
  | i + 1 => if bitK keep i = true then (i : Int) else lstI keep i
theorem lstI_b {keep : Int} : ∀ {n : Nat}, -1 ≤ lstI keep n ∧ lstI keep n < n
  | 0 => by simp [lstI]
  | n + 1 => by
    have := lstI_b (keep := keep) (n := n)
    unfold lstI; split <;> omega
theorem lstI_bit {keep : Int} : ∀ {n m : Nat}, lstI keep n = m → bitK keep m = true
  | 0, m, h => by simp only [lstI] at h; omega
  | n + 1, m, h => by
    unfold lstI at h
    split at h
    · rename_i hb
      obtain rfl : n = m := by omega
      exact hb
    · exact lstI_bit h
theorem kpI_lst {keep : Int} {l : List Wri} : ∀ {n : Nat}, n ≤ 20 → n ≤ l.length → kpI keep l n = kpI keep l (lstI keep n + 1).toNat
  | 0, _, _ => by simp [lstI, kpI]
  | n + 1, h1, h2 => by
    by_cases hb : bitK keep n = true
    · simp only [lstI, hb, if_true]; congr 1
    · rw [kpI_no (by simp [hb]), kpI_lst (by omega) (by omega)]; simp only [lstI, hb]; rfl
theorem kpI_20 {keep : Int} {l : List Wri} : ∀ {n : Nat}, 20 ≤ n → kpI keep l n = kpI keep l 20
  | 0, h => by omega
  | n + 1, h => by
    by_cases e : n + 1 = 20
    · rw [e]
    · rw [kpI_no (by omega), kpI_20 (by omega)]
theorem kpI_all {keep : Int} {l : List Wri} : kpI keep l l.length = kpI keep l (lstI keep (min l.length 20) + 1).toNat := by
  rw [← kpI_lst (by omega) (by omega)]
  by_cases h : l.length ≤ 20
  · rw [Nat.min_eq_left h]
  · rw [Nat.min_eq_right (by omega), kpI_20 (by omega)]
theorem stl_app {secs : List (List UInt8)} {l : List Wri} {w : Wri} : stl secs (l ++ [w]) = (stl secs l).set w.n.toNat w.b := by
  unfold stl; rw [List.foldl_append]; rfl
theorem trL_app {cut : Int} {l : List Wri} {w : Wri} : trL cut (l ++ [w]) = l ++ [⟨w.n, w.b.take cut.toNat⟩] := by
  unfold trL; simp
/-- The sectors behind `i` rounds. -/
def losS (f : Fau) (l : List Wri) (secs : List (List UInt8)) (m : Int) (i : Nat) : List (List UInt8) :=
  if (i : Int) ≤ m then stl secs (kpI f.keep l i) else stl secs (trL f.cut (kpI f.keep l i))
theorem losS_len {f : Fau} {l : List Wri} {secs : List (List UInt8)} {m : Int} {i : Nat} : (losS f l secs m i).length = secs.length := by
  unfold losS; split <;> rw [stl_len]
theorem losS_0 {f : Fau} {l : List Wri} {secs : List (List UInt8)} {m : Int} : losS f l secs m 0 = secs := by
  unfold losS; split <;> rfl
theorem losS_no {f : Fau} {l : List Wri} {secs : List (List UInt8)} {n i : Nat} (hm : (i : Int) ≤ lstI f.keep n) (hb : ¬ bitK f.keep i = true) : losS f l secs (lstI f.keep n) (i + 1) = losS f l secs (lstI f.keep n) i := by
  have h : (i : Int) ≠ lstI f.keep n := fun e => hb (lstI_bit e.symm)
  unfold losS
  rw [if_pos hm, if_pos (by omega), kpI_no (by simp [hb])]
theorem losS_yes {f : Fau} {l : List Wri} {secs : List (List UInt8)} {m : Int} {i : Nat} (hi : i < l.length) (h20 : i < 20) (hm : (i : Int) < m) (hb : bitK f.keep i = true) : losS f l secs m (i + 1) = (losS f l secs m i).set l[i].n.toNat l[i].b := by
  unfold losS
  rw [if_pos (by omega), if_pos (by omega), kpI_yes hi h20 hb, stl_app]
theorem losS_end {f : Fau} {l : List Wri} {secs : List (List UInt8)} {m : Int} {i : Nat} (hi : i < l.length) (h20 : i < 20) (hm : (i : Int) = m) (hb : bitK f.keep i = true) : losS f l secs m (i + 1) = (losS f l secs m i).set l[i].n.toNat (l[i].b.take f.cut.toNat) := by
  unfold losS
  rw [if_neg (by omega), if_pos (by omega), kpI_yes hi h20 hb, trL_app, stl_app]
theorem losS_all {f : Fau} {d : Dsk} : losS f d.cache d.secs (lstI f.keep (min d.cache.length 20)) (lstI f.keep (min d.cache.length 20) + 1).toNat = (losD d f).secs := by
  have := lstI_b (keep := f.keep) (n := min d.cache.length 20)
  unfold losS losD
  rw [if_neg (by omega), ← kpI_all]
/-- A sector is written. -/
def wrD (d : Dsk) (n : Int) (b : List UInt8) : Dsk × Int :=
  if d.down = true ∨ 100000 ≤ d.ops then (d, 9) else
  match fltD d with
  | some f => (losD { d with ops := d.ops + 1, cache := d.cache ++ [⟨n, b⟩] } f, 9)
  | none => ({ d with ops := d.ops + 1, cache := d.cache ++ [⟨n, b⟩] }, 0)
/-- All writes come into their sectors. -/
def flD (d : Dsk) : Dsk × Int :=
  if d.down = true ∨ 100000 ≤ d.ops then (d, 9) else
  match fltD d with
  | some f => (losD { d with ops := d.ops + 1 } f, 9)
  | none => ({ d with ops := d.ops + 1, secs := stl d.secs d.cache, cache := [] }, 0)

end Go.Proofs.Ytmphoefccibibaa
