/- Functions of the program, each with what it gives back. -/
import Derived.Test.YtopnaijeicknoaaGreatDoorKe
import Derived.Test.YtopnaijeicknoaaGreatDoorChecked
import Derived.IntWalk
import Derived.Test.YtopnaijeicknoaaGreatDoorMz
namespace Go.Proofs.YtopnaijeicknoaaGreatDoor
open Go Go.RowKit Go.IntWalk
open Enc (sz cs)
attribute [local irreducible] IntKind.wrap

/-! ### Tables that are right, in both packages' words -/
theorem bls_i : ∀ l : List UInt8, Op.bytesLess l l = false
  | [] => rfl
  | a :: x => by
    have := bls_i x
    simp only [Op.bytesLess, this, Bool.and_false, Bool.or_false, decide_eq_false_iff_not]
    exact UInt8.lt_irrefl a
theorem bls_t : ∀ {x y z : List UInt8}, Op.bytesLess x y = true → Op.bytesLess y z = true → Op.bytesLess x z = true
  | _, [], _, h, _ => by simp [Op.bytesLess] at h
  | _, _ :: _, [], _, h => by simp [Op.bytesLess] at h
  | [], _ :: _, _ :: _, _, _ => rfl
  | a :: x, b :: y, c :: z, h1, h2 => by
    simp only [Op.bytesLess, Bool.or_eq_true, decide_eq_true_eq, Bool.and_eq_true, beq_iff_eq] at *
    rcases h1 with h1 | ⟨rfl, h1⟩
    · rcases h2 with h2 | ⟨rfl, h2⟩
      · exact .inl (UInt8.lt_trans h1 h2)
      · exact .inl h1
    · rcases h2 with h2 | ⟨rfl, h2⟩
      · exact .inl h2
      · exact .inr ⟨rfl, bls_t h1 h2⟩
theorem LtV_i {a : Vl} : ¬ LtV a a := fun q => by
  rcases q with q | ⟨_, q | ⟨_, q⟩⟩
  · omega
  · omega
  · exact bft (bls_i _) q
theorem LtV_t {a b c : Vl} (h1 : LtV a b) (h2 : LtV b c) : LtV a c := by
  rcases h1 with h1 | ⟨e1, h1⟩
  · rcases h2 with h2 | ⟨e2, _⟩
    · exact .inl (by omega)
    · exact .inl (by omega)
  · rcases h2 with h2 | ⟨e2, h2⟩
    · exact .inl (by omega)
    · refine .inr ⟨by omega, ?_⟩
      rcases h1 with h1 | ⟨f1, h1⟩
      · rcases h2 with h2 | ⟨f2, _⟩
        · exact .inl (by omega)
        · exact .inl (by omega)
      · rcases h2 with h2 | ⟨f2, h2⟩
        · exact .inl (by omega)
        · exact .inr ⟨by omega, bls_t h1 h2⟩
theorem lpV_i {p : Prt} {a : Vl} : lpV p a a = false := by
  have h : lsV a a = false := bOf_n LtV_i
  unfold lpV
  split <;> exact h
theorem lpV_t {p : Prt} {a b c : Vl} (h1 : lpV p a b = true) (h2 : lpV p b c = true) : lpV p a c = true := by
  cases hd : p.desc with
  | true =>
    rw [lpV_d hd] at *
    exact bOf_y (LtV_t (bOf_t h2) (bOf_t h1))
  | false =>
    rw [lpV_a hd] at *
    exact bOf_y (LtV_t (bOf_t h1) (bOf_t h2))
theorem lkK_ir {l : List Prt} {a : List Vl} : lkK l a a = false := bOf_n fun q => by
  rcases q with ⟨i, q⟩ | ⟨q, _⟩
  · exact q.lt.1 rfl
  · omega
theorem lkK_tr {l : List Prt} {a b c : List Vl} (e1 : a.length = b.length) (e2 : b.length = c.length) (h1 : lkK l a b = true) (h2 : lkK l b c = true) : lkK l a c = true := by
  have h1 := bOf_t h1
  have h2 := bOf_t h2
  rcases h1 with ⟨i, p⟩ | ⟨p, _⟩
  rotate_left
  · omega
  rcases h2 with ⟨j, q⟩ | ⟨q, _⟩
  rotate_left
  · omega
  refine bOf_y (.inl ?_)
  have pa := p.la
  have pb := p.lb
  have qb := q.la
  have qc := q.lb
  rcases Nat.lt_trichotomy i j with h | h | h
  · have e : b[i] = c[i] := q.eq i pb (by omega) h
    refine ⟨i, pa, by omega, p.ll, fun m h1 h2 hm => (p.eq m h1 (by omega) hm).trans (q.eq m (by omega) h2 (by omega)), ?_, ?_⟩
    · rw [← e]; exact p.lt.1
    · rw [← e]; exact p.lt.2
  · subst h
    refine ⟨i, pa, qc, p.ll, fun m h1 h2 hm => (p.eq m h1 (by omega) hm).trans (q.eq m (by omega) h2 hm), ?_, lpV_t p.lt.2 q.lt.2⟩
    intro e
    have := lpV_t p.lt.2 q.lt.2
    rw [e, lpV_i] at this
    cases this
  · have e : a[j] = b[j] := p.eq j (by omega) (by omega) h
    refine ⟨j, by omega, qc, q.ll, fun m h1 h2 hm => (p.eq m h1 (by omega) (by omega)).trans (q.eq m (by omega) h2 hm), ?_, ?_⟩
    · rw [e]; exact q.lt.1
    · rw [e]; exact q.lt.2
theorem key_lt {d : Df} {k : Nat} {rows : List (List Vl)} (h : ∀ j (hj : j < rows.length), RwI d k rows j hj) : ∀ (n i : Nat) (hi : i < rows.length) (hj : i + n + 1 < rows.length), lkK (ppN d) (pkR (ppN d) rows[i]) (pkR (ppN d) rows[i + n + 1]) = true
  | 0, i, hi, hj => (h (i + 1) hj).ls (by omega)
  | n + 1, i, hi, hj => by
    have h1 := key_lt h n i hi (by omega)
    have h2 := (h (i + (n + 1) + 1) hj).ls (by omega)
    exact lkK_tr (by rw [pkR_len, pkR_len]) (by rw [pkR_len, pkR_len]) h1 h2
theorem clN2_c {d : Df} {a b : List Vl} (h : Cla d a b) : Cla d b a := by
  obtain ⟨i, hi, q⟩ := h
  exact ⟨i, hi, q.uni, q.by_.symm⟩
theorem tbIS {d : Df} {k : Nat} {rows : List (List Vl)} : tbI d k rows = tbS d k rows := by
  cases h : tbS d k rows with
  | true =>
    obtain ⟨h1, h2⟩ := bOf_t h
    refine bOf_y fun j hj => ⟨h1 j hj, fun i hi hij => bOf_n fun q => ?_⟩
    obtain ⟨u, hu, q⟩ := q
    refine bOf_f (h2 j hj) ⟨u, hu, q.uni, i, hi, q.by_, fun e => ?_⟩
    obtain ⟨n, rfl⟩ : ∃ n, j = i + n + 1 := ⟨j - i - 1, by omega⟩
    have := key_lt h1 n i hi hj
    rw [e, lkK_ir] at this
    cases this
  | false =>
    refine bOf_n fun q => bOf_f h ⟨fun j hj => (q j hj).rw_, fun j hj => bOf_n fun p => ?_⟩
    obtain ⟨u, hu, p⟩ := p
    obtain ⟨v, hv, p2⟩ := p.ex
    rcases Nat.lt_trichotomy v j with h3 | h3 | h3
    · exact bOf_f ((q j hj).cl v hv h3) ⟨u, hu, p.uni, p2.by_⟩
    · subst h3; exact p2.ne rfl
    · exact bOf_f ((q v hv).cl j hj h3) ⟨u, hu, p.uni, p2.by_.symm⟩
theorem moIS {s : List Df} {m : Tbs} : moI s m = moS s m := by
  unfold moI moS
  congr 1
  refine propext ⟨fun q => ⟨q.1, q.2.1, fun t h h2 => ?_⟩, fun q => ⟨q.1, q.2.1, fun t h h2 => ?_⟩⟩
  · rw [← tbIS]; exact q.2.2 t h h2
  · rw [tbIS]; exact q.2.2 t h h2

end Go.Proofs.YtopnaijeicknoaaGreatDoor
