/- Functions of the program, each with what it gives back. -/
import Derived.Test.YtmphoefccibibaaKe
import Derived.Test.YtmphoefccibibaaChecked
import Derived.IntWalk
import Derived.Test.YtmphoefccibibaaFn
namespace Go.Proofs.Ytmphoefccibibaa
open Go Go.RowKit Go.IntWalk
open Enc (sz cs)
attribute [local irreducible] IntKind.wrap

attribute [local irreducible] gU gT gS gP gM ptP ptM ptS crcN rdS bdN gN pgA
/-- The place of a new node, or -1. -/
def nwI (n : Int) : List Fre → Int
  | [] => -1
  | f :: l => if f.n = n then 0 else if nwI n l < 0 then -1 else nwI n l + 1
theorem nwI_no {n : Int} : ∀ {l : List Fre}, (∀ j (h : j < l.length), l[j].n ≠ n) → nwI n l = -1
  | [], _ => rfl
  | f :: l, h => by
    have h0 := h 0 (by simp)
    have h1 := nwI_no (l := l) (fun j hj => by have := h (j + 1) (by simp; omega); simpa using this)
    rw [nwI, if_neg (by simpa using h0), h1]; rfl
theorem nwI_at {n : Int} : ∀ {l : List Fre} {i : Nat} (hi : i < l.length), l[i].n = n → (∀ j (h : j < l.length), j < i → l[j].n ≠ n) → nwI n l = i
  | f :: l, 0, _, h, _ => by rw [nwI, if_pos (by simpa using h)]; rfl
  | f :: l, i + 1, hi, h, h2 => by
    have h0 := h2 0 (by simp) (by omega)
    have h1 := nwI_at (l := l) (i := i) (by simpa using hi) (by simpa using h) (fun j hj hl => by have := h2 (j + 1) (by simp; omega) (by omega); simpa using this)
    rw [nwI, if_neg (by simpa using h0), h1, if_neg (by omega)]; omega
theorem nwI_cases (n : Int) (l : List Fre) : (nwI n l = -1 ∧ ∀ j (h : j < l.length), l[j].n ≠ n) ∨ ∃ i, ∃ hi : i < l.length, nwI n l = i ∧ l[i].n = n := by
  induction l with
  | nil => exact .inl ⟨rfl, fun j h => by simp at h⟩
  | cons f l ih =>
    by_cases e : f.n = n
    · exact .inr ⟨0, by simp, by rw [nwI, if_pos e]; rfl, by simpa using e⟩
    · rcases ih with ⟨h1, h2⟩ | ⟨i, hi, h1, h2⟩
      · refine .inl ⟨by rw [nwI, if_neg e, h1]; rfl, fun j hj => ?_⟩
        cases j with
        | zero => simpa using e
        | succ j => simpa using h2 j (by simpa using hj)
      · exact .inr ⟨i + 1, by simpa using hi, by rw [nwI, if_neg e, h1, if_neg (by omega)]; omega, by simpa using h2⟩
/-- The node of a sector of a disk. -/
noncomputable def ndD (d : Dsk) (n : Int) : Nod × Bool := if (pgA d n 1).2 = true then gN (pgA d n 1).1 else (nod0, false)
/-- The node of a sector. -/
noncomputable def ndA (t : Txn) (n : Int) : Nod × Bool := match t.new[(nwI n t.new).toNat]? with
  | some f => if 0 ≤ nwI n t.new then (f.x, true) else ndD t.d n
  | none => ndD t.d n
theorem ndA_new {t : Txn} {n : Int} {i : Nat} (hi : i < t.new.length) (h : nwI n t.new = i) : ndA t n = (t.new[i].x, true) := by
  unfold ndA
  rw [h, Int.toNat_natCast, List.getElem?_eq_getElem hi]
  simp only
  rw [if_pos (by omega)]
theorem ndA_old {t : Txn} {n : Int} (h : nwI n t.new = -1) : ndA t n = ndD t.d n := by
  unfold ndA
  rw [h]
  split
  · rw [if_neg (by omega)]
  · rfl
theorem ndD_yes {d : Dsk} {n : Int} (h : (pgA d n 1).2 = true) : ndD d n = gN (pgA d n 1).1 := if_pos h
theorem ndD_no {d : Dsk} {n : Int} (h : (pgA d n 1).2 = false) : ndD d n = (nod0, false) := if_neg (by rw [h]; simp)
theorem gN_bad {b : List UInt8} (h : (gN b).2 = false) : gN b = (nod0, false) := by
  rcases gN_cases b with ⟨x, _, _, e⟩ | ⟨_, e⟩
  · rw [e] at h; cases h
  · exact e
theorem ndD_ok {d : Dsk} {n : Int} (h : (ndD d n).2 = true) : NodOk (ndD d n).1 := by
  unfold ndD at *
  split at h
  · rename_i h1; rw [if_pos h1]; exact (gN_ok h).1
  · simp at h
theorem ndD_len (d : Dsk) (n : Int) : zN (ndD d n).1 ≤ 240 := by
  cases h : (ndD d n).2 with
  | true => exact (ndD_ok h).small
  | false =>
    unfold ndD at *
    split
    · rename_i h1
      rw [if_pos h1] at h
      rcases gN_cases (pgA d n 1).1 with ⟨x, _, _, e⟩ | ⟨_, e⟩
      · rw [e] at h; cases h
      · rw [e]; simp [zN, zSS, cnt]
    · simp [zN, zSS, cnt]
theorem ndA_len (t : Txn) (n : Int) : zN (ndA t n).1 ≤ zT t + 240 := by
  rcases nwI_cases n t.new with ⟨h, _⟩ | ⟨i, hi, h, _⟩
  · rw [ndA_old h]; have := ndD_len t.d n; omega
  · rw [ndA_new hi h]
    have := zT_nod (List.getElem_mem hi)
    dsimp only; omega
theorem cN_le (x : Nod) : x.keys.length + x.vals.length + x.kids.length ≤ zN x := by
  have h1 := zSS_ge x.keys
  have h2 := zSS_ge x.vals
  unfold zN; omega

end Go.Proofs.Ytmphoefccibibaa
