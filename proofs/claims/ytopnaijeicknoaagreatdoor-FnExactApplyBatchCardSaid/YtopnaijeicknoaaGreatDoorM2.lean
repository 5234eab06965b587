/- Functions of the program, each with what it gives back. -/
import Derived.Test.YtopnaijeicknoaaGreatDoorKe
import Derived.Test.YtopnaijeicknoaaGreatDoorChecked
import Derived.IntWalk
import Derived.Test.YtopnaijeicknoaaGreatDoorM1
namespace Go.Proofs.YtopnaijeicknoaaGreatDoor
open Go Go.RowKit Go.IntWalk
open Enc (sz cs)
attribute [local irreducible] IntKind.wrap

/-! ### Keys in order; a row put in its place -/
theorem bls_tri : ∀ {x y : List UInt8}, x ≠ y → Op.bytesLess x y = true ∨ Op.bytesLess y x = true
  | [], [], h => absurd rfl h
  | [], _ :: _, _ => .inl rfl
  | _ :: _, [], _ => .inr rfl
  | a :: x, b :: y, h => by
    simp only [Op.bytesLess, Bool.or_eq_true, decide_eq_true_eq, Bool.and_eq_true, beq_iff_eq]
    by_cases e : a = b
    · subst e
      rcases bls_tri (x := x) (y := y) (fun q => h (by rw [q])) with q | q
      · exact .inl (.inr ⟨rfl, q⟩)
      · exact .inr (.inr ⟨rfl, q⟩)
    · have hne : a.toNat ≠ b.toNat := fun q => e (UInt8.toNat_inj.1 q)
      rcases Nat.lt_or_gt_of_ne hne with q | q
      · exact .inl (.inl (UInt8.lt_iff_toNat_lt.2 q))
      · exact .inr (.inl (UInt8.lt_iff_toNat_lt.2 q))
theorem ba_inj {s t : ByteArray} (h : s.toList = t.toList) : s = t := by
  rw [ByteArray.toList_eq, ByteArray.toList_eq] at h
  obtain ⟨⟨a⟩⟩ := s
  obtain ⟨⟨b⟩⟩ := t
  have h : a = b := h
  rw [h]
theorem LtV_tri {a b : Vl} (h : a ≠ b) : LtV a b ∨ LtV b a := by
  obtain ⟨k, n, s⟩ := a
  obtain ⟨k2, n2, s2⟩ := b
  by_cases e1 : k = k2
  · by_cases e2 : n = n2
    · subst e1 e2
      have e3 : s ≠ s2 := fun q => h (by rw [q])
      rcases bls_tri (x := s.toList) (y := s2.toList) (fun q => e3 (ba_inj q)) with q | q
      · exact .inl (.inr ⟨rfl, .inr ⟨rfl, q⟩⟩)
      · exact .inr (.inr ⟨rfl, .inr ⟨rfl, q⟩⟩)
    · rcases Int.lt_or_gt_of_ne e2 with q | q
      · exact .inl (.inr ⟨e1, .inl q⟩)
      · exact .inr (.inr ⟨e1.symm, .inl q⟩)
  · rcases Int.lt_or_gt_of_ne e1 with q | q
    · exact .inl (.inl q)
    · exact .inr (.inl q)
theorem lpV_tri {p : Prt} {a b : Vl} (h : a ≠ b) : lpV p a b = true ∨ lpV p b a = true := by
  cases hd : p.desc with
  | true =>
    rw [lpV_d hd, lpV_d hd]
    rcases LtV_tri h with q | q
    · exact .inr (bOf_y q)
    · exact .inl (bOf_y q)
  | false =>
    rw [lpV_a hd, lpV_a hd]
    rcases LtV_tri h with q | q
    · exact .inl (bOf_y q)
    · exact .inr (bOf_y q)
/-- Two lists of one length that are not the same differ first somewhere. -/
theorem dif_first {α : Type} : ∀ {a b : List α}, a.length = b.length → a ≠ b → ∃ i, ∃ h1 : i < a.length, ∃ h2 : i < b.length, a[i] ≠ b[i] ∧ ∀ j (h3 : j < a.length) (h4 : j < b.length), j < i → a[j] = b[j]
  | [], [], _, h => absurd rfl h
  | [], _ :: _, h, _ => by simp at h
  | _ :: _, [], h, _ => by simp at h
  | x :: a, y :: b, hl, h => by
    by_cases e : x = y
    · subst e
      obtain ⟨i, h1, h2, h3, h4⟩ := dif_first (a := a) (b := b) (by simpa using hl) (fun q => h (by rw [q]))
      refine ⟨i + 1, by simpa using h1, by simpa using h2, by simpa using h3, fun j q1 q2 q3 => ?_⟩
      cases j with
      | zero => rfl
      | succ j => simpa using h4 j (by simpa using q1) (by simpa using q2) (by omega)
    · exact ⟨0, by simp, by simp, by simpa using e, fun j _ _ q => by omega⟩
theorem lkK_tri {l : List Prt} {a b : List Vl} (e1 : a.length = l.length) (e2 : b.length = l.length) (h : a ≠ b) : lkK l a b = true ∨ lkK l b a = true := by
  obtain ⟨i, h1, h2, h3, h4⟩ := dif_first (by omega) h
  rcases lpV_tri (p := l[i]) h3 with q | q
  · exact .inl (bOf_y (.inl ⟨i, h1, h2, by omega, h4, h3, q⟩))
  · exact .inr (bOf_y (.inl ⟨i, h2, h1, by omega, fun j q1 q2 q3 => (h4 j q2 q1 q3).symm, fun e => h3 e.symm, q⟩))
abbrev Kyd := List Vl
/- A step of spec's putting a row in its place. -/
open Classical in
noncomputable def sgS (l : List Prt) (row : List Vl) (x : List (List Vl) × Bool) (r : List Vl) : List (List Vl) × Bool :=
  let y := if x.2 = false ∧ lkK l (pkR l r) (pkR l row) = false then (x.1 ++ [row], true) else x
  if pkR l r = pkR l row then y else (y.1 ++ [r], y.2)
/- A step of impl's. -/
open Classical in
noncomputable def sgI (l : List Prt) (key row : List Vl) (x : List (List Vl) × Bool) (r : List Vl) : List (List Vl) × Bool :=
  if pkR l r = key then x else
    if x.2 = false ∧ lkK l key (pkR l r) = true then (x.1 ++ [row, r], true) else (x.1 ++ [r], x.2)
def fnS (row : List Vl) (x : List (List Vl) × Bool) : List (List Vl) := if x.2 = true then x.1 else x.1 ++ [row]
noncomputable def seS (l : List Prt) (rows : List (List Vl)) (row : List Vl) : List (List Vl) := fnS row (rows.foldl (sgS l row) ([], false))
noncomputable def seI (l : List Prt) (rows : List (List Vl)) (row : List Vl) : List (List Vl) := fnS row (rows.foldl (sgI l (pkR l row) row) ([], false))
theorem sgS_t {l : List Prt} {row : List Vl} : ∀ {rs out : List (List Vl)}, (∀ r ∈ rs, pkR l r ≠ pkR l row) → rs.foldl (sgS l row) (out, true) = (out ++ rs, true)
  | [], out, _ => by simp
  | r :: rs, out, h => by
    have h1 := h r (List.mem_cons_self ..)
    have e : sgS l row (out, true) r = (out ++ [r], true) := by
      simp only [sgS, if_neg h1, Bool.true_eq_false, false_and, if_false]
    rw [List.foldl_cons, e, sgS_t fun x hx => h x (List.mem_cons_of_mem _ hx)]
    simp
theorem sgI_t {l : List Prt} {key row : List Vl} : ∀ {rs out : List (List Vl)}, (∀ r ∈ rs, pkR l r ≠ key) → rs.foldl (sgI l key row) (out, true) = (out ++ rs, true)
  | [], out, _ => by simp
  | r :: rs, out, h => by
    have h1 := h r (List.mem_cons_self ..)
    have e : sgI l key row (out, true) r = (out ++ [r], true) := by
      simp only [sgI, if_neg h1, Bool.true_eq_false, false_and, if_false]
    rw [List.foldl_cons, e, sgI_t fun x hx => h x (List.mem_cons_of_mem _ hx)]
    simp
theorem pk_len2 {l : List Prt} {a b : List Vl} : (pkR l a).length = (pkR l b).length := by rw [pkR_len, pkR_len]
theorem lk_as {l : List Prt} {a b : List Vl} (e : a.length = b.length) (h : lkK l a b = true) : lkK l b a = false := by
  cases h2 : lkK l b a with
  | false => rfl
  | true =>
    have := lkK_tr e e.symm h h2
    rw [lkK_ir] at this
    cases this
theorem lk_ne {l : List Prt} {a b : List Vl} (h : lkK l a b = true) : a ≠ b := fun e => by
  rw [e, lkK_ir] at h
  cases h
/-- Rows in the order of their keys. -/
def Srt (l : List Prt) : List (List Vl) → Prop
  | [] => True
  | r :: rs => (∀ x ∈ rs, lkK l (pkR l r) (pkR l x) = true) ∧ Srt l rs
theorem sg_same {l : List Prt} {row : List Vl} : ∀ {rs out : List (List Vl)}, Srt l rs → fnS row (rs.foldl (sgI l (pkR l row) row) (out, false)) = fnS row (rs.foldl (sgS l row) (out, false))
  | [], out, _ => rfl
  | r :: rs, out, h => by
    obtain ⟨h1, h2⟩ := h
    rw [List.foldl_cons, List.foldl_cons]
    by_cases e : pkR l r = pkR l row
    · have hall : ∀ x ∈ rs, pkR l x ≠ pkR l row := fun x hx q => lk_ne (h1 x hx) (by rw [e, q])
      have e1 : sgI l (pkR l row) row (out, false) r = (out, false) := by simp only [sgI, if_pos e]
      have e2 : sgS l row (out, false) r = (out ++ [row], true) := by
        simp only [sgS, if_pos e, e, lkK_ir, and_self, if_true]
      rw [e1, e2, sgS_t hall]
      cases rs with
      | nil => simp [fnS]
      | cons r2 rs =>
        have e3 : sgI l (pkR l row) row (out, false) r2 = (out ++ [row, r2], true) := by
          have hl := h1 r2 (List.mem_cons_self ..)
          rw [e] at hl
          simp only [sgI, if_neg (hall r2 (List.mem_cons_self ..)), hl, and_self, if_true]
        rw [List.foldl_cons, e3, sgI_t fun x hx => hall x (List.mem_cons_of_mem _ hx)]
        simp [fnS]
    · rcases lkK_tri pkR_len pkR_len e with q | q
      · have q2 := lk_as pk_len2 q
        have e1 : sgI l (pkR l row) row (out, false) r = (out ++ [r], false) := by
          simp only [sgI, if_neg e, q2, Bool.false_eq_true, and_false, if_false]
        have e2 : sgS l row (out, false) r = (out ++ [r], false) := by
          simp only [sgS, if_neg e, q, Bool.true_eq_false, and_false, if_false]
        rw [e1, e2]
        exact sg_same h2
      · have q2 := lk_as pk_len2 q
        have e1 : sgI l (pkR l row) row (out, false) r = (out ++ [row, r], true) := by
          simp only [sgI, if_neg e, q, and_self, if_true]
        have e2 : sgS l row (out, false) r = (out ++ [row] ++ [r], true) := by
          simp only [sgS, if_neg e, q2, and_self, if_true]
        have hall : ∀ x ∈ rs, pkR l x ≠ pkR l row := fun x hx q3 => lk_ne (lkK_tr pk_len2 pk_len2 q (h1 x hx)) q3.symm
        rw [e1, e2, sgS_t hall, sgI_t hall]
        simp [fnS]
theorem seIS {l : List Prt} {rows : List (List Vl)} {row : List Vl} (h : Srt l rows) : seI l rows row = seS l rows row := sg_same h
theorem srt_of {d : Df} {k : Nat} {rows : List (List Vl)} (h : ∀ j (hj : j < rows.length), RwI d k rows j hj) : ∀ n, n ≤ rows.length → Srt (ppN d) (rows.drop (rows.length - n))
  | 0, _ => by simp [Srt]
  | n + 1, hn => by
    have hlt : rows.length - (n + 1) < rows.length := by omega
    rw [List.drop_eq_getElem_cons hlt]
    refine ⟨fun x hx => ?_, ?_⟩
    · obtain ⟨i, hi, rfl⟩ := List.getElem_of_mem hx
      simp only [List.length_drop] at hi
      have := key_lt h i (rows.length - (n + 1)) hlt (by omega)
      rw [List.getElem_drop]
      have e : rows.length - (n + 1) + 1 + i = rows.length - (n + 1) + i + 1 := by omega
      simp only [e]
      exact this
    · have e : rows.length - (n + 1) + 1 = rows.length - n := by omega
      rw [e]
      exact srt_of h n (by omega)
theorem tb_srt {d : Df} {k : Nat} {rows : List (List Vl)} (h : ∀ j (hj : j < rows.length), RwI d k rows j hj) : Srt (ppN d) rows := by
  have := srt_of h rows.length (Nat.le_refl _)
  rwa [Nat.sub_self, List.drop_zero] at this

/-! ### What an operation does -/
/-- The key that an operation is about. -/
noncomputable def kyD (d : Df) (o : Opn) : List Vl := if o.kind = 4 then o.row else pkR (ppN d) o.row
theorem kyD_4 {d : Df} {o : Opn} (h : o.kind = 4) : kyD d o = o.row := if_pos h
theorem kyD_n {d : Df} {o : Opn} (h : ¬ o.kind = 4) : kyD d o = pkR (ppN d) o.row := if_neg h
/-- The code of an operation on a table that is there. -/
noncomputable def ofT (d : Df) (k : Nat) (o : Opn) : Int :=
  if o.kind = 4 then (if roOk (ppN d) o.row = true then 0 else 3)
  else if roOk (rpN d) o.row = true then (if lkN d k o.row = true then 7 else 0) else 3
noncomputable def thN (o : Opn) (b : Bool) : Int :=
  if o.kind = 1 ∧ b = true then 4 else if (o.kind = 3 ∨ o.kind = 4) ∧ b = false then 6 else 0
noncomputable def isN (d : Df) (rows : List (List Vl)) (o : Opn) : Bool := decide (0 ≤ atN (ppN d) rows (kyD d o))
/-- The code of an operation on a table. -/
noncomputable def acT (d : Df) (k : Nat) (rows : List (List Vl)) (o : Opn) : Int :=
  if ofT d k o = 0 then
    if thN o (isN d rows o) = 0 then (if o.kind = 4 then 0 else if tkN d rows o.row = true then 5 else 0)
    else thN o (isN d rows o)
  else ofT d k o
/-- The rows behind it. -/
noncomputable def nrN (d : Df) (rows : List (List Vl)) (o : Opn) : List (List Vl) :=
  if o.kind = 4 then rows.take (atN (ppN d) rows o.row).toNat ++ rows.drop ((atN (ppN d) rows o.row).toNat + 1) else seS (ppN d) rows o.row
theorem nrN_4 {d : Df} {rows : List (List Vl)} {o : Opn} {j : Nat} (h : o.kind = 4) (hj : atN (ppN d) rows o.row = j) : nrN d rows o = rows.take j ++ rows.drop (j + 1) := by
  unfold nrN; rw [if_pos h, hj, Int.toNat_natCast]
theorem nrN_n {d : Df} {rows : List (List Vl)} {o : Opn} (h : ¬ o.kind = 4) : nrN d rows o = seS (ppN d) rows o.row := if_neg h
abbrev ApH (s : List Df) (m : Tbs) (o : Opn) : Prop := 0 ≤ o.t ∧ o.t.toNat < s.length ∧ o.t.toNat < m.length
noncomputable def apN (s : List Df) (m : Tbs) (o : Opn) : Tbs × Int :=
  if moS s m = true ∧ inB o.kind 1 4 = true then
    if h : ApH s m o then
      if acT (s[o.t.toNat]'h.2.1) o.t.toNat (m[o.t.toNat]'h.2.2) o = 0 then (m.set o.t.toNat (nrN (s[o.t.toNat]'h.2.1) (m[o.t.toNat]'h.2.2) o), 0)
      else (m, acT (s[o.t.toNat]'h.2.1) o.t.toNat (m[o.t.toNat]'h.2.2) o)
    else (m, 2)
  else (m, 1)
theorem apN_1 {s : List Df} {m : Tbs} {o : Opn} (h : ¬ (moS s m = true ∧ inB o.kind 1 4 = true)) : apN s m o = (m, 1) := if_neg h
theorem apN_2 {s : List Df} {m : Tbs} {o : Opn} (h : moS s m = true ∧ inB o.kind 1 4 = true) (h2 : ¬ ApH s m o) : apN s m o = (m, 2) := by
  unfold apN; rw [if_pos h, dif_neg h2]
theorem apN_e {s : List Df} {m : Tbs} {kd : Int} {row : List Vl} {k : Nat} (h : moS s m = true ∧ inB kd 1 4 = true) (h1 : k < s.length) (h2 : k < m.length) (hc : ¬ acT s[k] k m[k] ⟨kd, k, row⟩ = 0) : apN s m ⟨kd, k, row⟩ = (m, acT s[k] k m[k] ⟨kd, k, row⟩) := by
  unfold apN
  rw [if_pos h, dif_pos ⟨by simp, by simpa using h1, by simpa using h2⟩]
  simp only [Int.toNat_natCast]
  rw [if_neg hc]
theorem apN_y {s : List Df} {m : Tbs} {kd : Int} {row : List Vl} {k : Nat} (h : moS s m = true ∧ inB kd 1 4 = true) (h1 : k < s.length) (h2 : k < m.length) (hc : acT s[k] k m[k] ⟨kd, k, row⟩ = 0) : apN s m ⟨kd, k, row⟩ = (m.set k (nrN s[k] m[k] ⟨kd, k, row⟩), 0) := by
  unfold apN
  rw [if_pos h, dif_pos ⟨by simp, by simpa using h1, by simpa using h2⟩]
  simp only [Int.toNat_natCast]
  rw [if_pos hc]
theorem mo_len {s : List Df} {m : Tbs} (h : moS s m = true) : m.length = s.length := (bOf_t h).2.1
theorem mo_fb {s : List Df} {m : Tbs} (h : moS s m = true) : fbN s = -1 := (bOf_t h).1
theorem mo_rw {s : List Df} {m : Tbs} (h : moS s m = true) {k : Nat} (h1 : k < s.length) (h2 : k < m.length) : ∀ j (hj : j < m[k].length), RwI s[k] k m[k] j hj := (bOf_t ((bOf_t h).2.2 k h1 h2)).1
/-! How large it is -/
theorem cnt_set {α : Type} {c : α → Nat} {l : List α} {k : Nat} {x : α} (h : k < l.length) : cnt c (l.set k x) + c l[k] = cnt c l + c x := by
  induction l generalizing k with
  | nil => simp at h
  | cons y l ih =>
    cases k with
    | zero => simp only [List.set_cons_zero, cnt, List.getElem_cons_zero]; omega
    | succ k =>
      have := ih (k := k) (by simpa using h)
      simp only [List.set_cons_succ, cnt, List.getElem_cons_succ]; omega
theorem cnt_ap {α : Type} {c : α → Nat} : ∀ {a b : List α}, cnt c (a ++ b) = cnt c a + cnt c b
  | [], b => by simp [cnt]
  | x :: a, b => by simp only [List.cons_append, cnt, cnt_ap (a := a) (b := b)]; omega
abbrev zzR (t : List (List Vl)) : Nat := t.length + cnt zRow t
theorem zz_ap {a b : List (List Vl)} : zzR (a ++ b) = zzR a + zzR b := by
  simp only [zzR, cnt_ap, List.length_append]; omega
theorem zz_1 {r : List Vl} : zzR [r] = 1 + zRow r := by simp [zzR, cnt]
theorem zz_td {t : List (List Vl)} {j : Nat} (h : j < t.length) : zzR (t.take j ++ t.drop (j + 1)) ≤ zzR t := by
  have e : zzR t = zzR (t.take j ++ t.drop j) := by rw [List.take_append_drop]
  rw [e, zz_ap, zz_ap, List.drop_eq_getElem_cons h]
  have : zzR (t[j] :: t.drop (j + 1)) = zzR [t[j]] + zzR (t.drop (j + 1)) := zz_ap (a := [t[j]])
  omega
theorem sgS_z {l : List Prt} {row : List Vl} {x : List (List Vl) × Bool} {r : List Vl} : zzR (fnS row (sgS l row x r)) ≤ zzR (fnS row x) + zzR [r] := by
  obtain ⟨out, b⟩ := x
  have z1 : zzR [row, r] = zzR [row] + zzR [r] := zz_ap (a := [row])
  have z2 : zzR [r, row] = zzR [r] + zzR [row] := zz_ap (a := [r])
  unfold sgS
  simp only
  split <;> split <;> (rename_i h1 h2; cases b <;> simp_all [fnS, zz_ap] <;> omega)
theorem sg_z {l : List Prt} {row : List Vl} : ∀ {rs : List (List Vl)} {x : List (List Vl) × Bool}, zzR (fnS row (rs.foldl (sgS l row) x)) ≤ zzR (fnS row x) + zzR rs
  | [], x => by simp
  | r :: rs, x => by
    have h1 := sg_z (l := l) (row := row) (rs := rs) (x := sgS l row x r)
    have h2 := sgS_z (l := l) (row := row) (x := x) (r := r)
    have h3 : zzR (r :: rs) = zzR [r] + zzR rs := zz_ap (a := [r])
    rw [List.foldl_cons]; omega
theorem nrN_z {d : Df} {rows : List (List Vl)} {o : Opn} : zTab (nrN d rows o) ≤ zTab rows + zRow o.row + 1 := by
  show zzR (nrN d rows o) ≤ zzR rows + zRow o.row + 1
  by_cases h : o.kind = 4
  · unfold nrN
    rw [if_pos h]
    generalize (atN (ppN d) rows o.row).toNat = j
    by_cases hj : j < rows.length
    · have := zz_td hj; omega
    · rw [List.take_of_length_le (by omega), List.drop_eq_nil_of_le (by omega), List.append_nil]; omega
  · rw [nrN_n h]
    have h1 := sg_z (l := ppN d) (row := o.row) (rs := rows) (x := ([], false))
    have h2 : zzR (fnS o.row ([], false)) = 1 + zRow o.row := zz_1
    unfold seS; omega
theorem apN_z {s : List Df} {m : Tbs} {o : Opn} : zMdb (apN s m o).1 ≤ zMdb m + zRow o.row + 1 := by
  by_cases h : moS s m = true ∧ inB o.kind 1 4 = true
  · by_cases h2 : ApH s m o
    · obtain ⟨kd, t, row⟩ := o
      obtain ⟨ha, hb, hc⟩ := h2
      obtain ⟨k, rfl⟩ : ∃ k : Nat, t = k := ⟨t.toNat, by simp only at ha; omega⟩
      simp only [Int.toNat_natCast] at hb hc
      by_cases h3 : acT s[k] k m[k] ⟨kd, k, row⟩ = 0
      · rw [apN_y h hb hc h3]
        have h4 := cnt_set (c := zTab) (x := nrN s[k] m[k] ⟨kd, k, row⟩) hc
        have h5 := nrN_z (d := s[k]) (rows := m[k]) (o := ⟨kd, k, row⟩)
        simp only [zMdb, List.length_set] at *
        omega
      · rw [apN_e h hb hc h3]; simp only; omega
    · rw [apN_2 h h2]; simp only; omega
  · rw [apN_1 h]; simp only; omega
theorem apN_len {s : List Df} {m : Tbs} {o : Opn} : (apN s m o).1.length = m.length := by
  unfold apN
  split
  · split
    · split
      · rw [List.length_set]
      · rfl
    · rfl
  · rfl
/-! Operations, one behind the other -/
noncomputable abbrev baM (s : List Df) (m : Tbs) (l : List Opn) (i : Nat) : Tbs := (l.take i).foldl (fun m o => (apN s m o).1) m
theorem baM_suc {s : List Df} {m : Tbs} {l : List Opn} {i : Nat} (h : i < l.length) : baM s m l (i + 1) = (apN s (baM s m l i) l[i]).1 := by
  unfold baM
  rw [take_one h, List.foldl_append]; rfl
theorem baM_z {s : List Df} {m : Tbs} {l : List Opn} : ∀ {i : Nat}, i ≤ l.length → zMdb (baM s m l i) ≤ zMdb m + cnt (fun o => zRow o.row) (l.take i) + i
  | 0, _ => by simp [baM, cnt]
  | i + 1, h => by
    have h1 := baM_z (s := s) (m := m) (i := i) (Nat.le_of_succ_le h)
    have h2 := apN_z (s := s) (m := baM s m l i) (o := l[i])
    have h3 := cnt_take (c := fun o : Opn => zRow o.row) (xs := l) (i := i) h
    rw [baM_suc h]
    omega
/-- The first operation that is refused. -/
noncomputable abbrev baC (s : List Df) (m : Tbs) (l : List Opn) : Int := fstI l.length fun i => ∃ h : i < l.length, (apN s (baM s m l i) l[i]).2 ≠ 0

end Go.Proofs.YtopnaijeicknoaaGreatDoor
