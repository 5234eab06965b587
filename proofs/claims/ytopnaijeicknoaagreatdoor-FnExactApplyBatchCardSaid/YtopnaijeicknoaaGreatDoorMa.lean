/- Functions of the program, each with what it gives back. -/
import Derived.Test.YtopnaijeicknoaaGreatDoorKe
import Derived.Test.YtopnaijeicknoaaGreatDoorChecked
import Derived.IntWalk
import Derived.Test.YtopnaijeicknoaaGreatDoorFa
namespace Go.Proofs.YtopnaijeicknoaaGreatDoor
open Go Go.RowKit Go.IntWalk
open Enc (sz cs)
attribute [local irreducible] IntKind.wrap

/-! ### The data of tables -/
structure Vl where
  k : Int
  n : Int
  s : ByteArray
structure Cl where
  name : ByteArray
  type : Int
  null : Bool
structure By where
  col : Int
  desc : Bool
structure Ix where
  name : ByteArray
  uniq : Bool
  parts : List By
structure Df where
  name : ByteArray
  cols : List Cl
  prim : List By
  idx : List Ix
structure Prt where
  col : Int
  type : Int
  null : Bool
  desc : Bool
structure Opn where
  kind : Int
  t : Int
  row : List Vl
abbrev vlC (v : Vl) : List Cell := [i6 v.k, i6 v.n, s1 v.s]
abbrev coC (c : Cl) : List Cell := [s1 c.name, i6 c.type, b1 c.null]
abbrev bpC (b : By) : List Cell := [i6 b.col, b1 b.desc]
abbrev prtC (p : Prt) : List Cell := [i6 p.col, i6 p.type, b1 p.null, b1 p.desc]
instance : Enc Vl where
  sz := 3
  cs _ l := l.flatMap vlC
  nil _ := rfl
  app _ xs ys := by simp
  len _ _ := rfl
  shal _ _ := rfl
  clo _ _ := rfl
  ro _ _ := rfl
  now _ := rfl
  pu _ := rfl
instance : Enc Cl where
  sz := 3
  cs _ l := l.flatMap coC
  nil _ := rfl
  app _ xs ys := by simp
  len _ _ := rfl
  shal _ _ := rfl
  clo _ _ := rfl
  ro _ _ := rfl
  now _ := rfl
  pu _ := rfl
instance : Enc By where
  sz := 2
  cs _ l := l.flatMap bpC
  nil _ := rfl
  app _ xs ys := by simp
  len _ _ := rfl
  shal _ _ := rfl
  clo _ _ := rfl
  ro _ _ := rfl
  now _ := rfl
  pu _ := rfl
instance : Enc Prt where
  sz := 4
  cs _ l := l.flatMap prtC
  nil _ := rfl
  app _ xs ys := by simp
  len _ _ := rfl
  shal _ _ := rfl
  clo _ _ := rfl
  ro _ _ := rfl
  now _ := rfl
  pu _ := rfl
abbrev ixC (o : Bool) (x : Ix) : List Cell := [s1 x.name, b1 x.uniq, slE o x.parts]
instance : Enc Ix where
  sz := 3
  cs o l := l.flatMap (ixC o)
  nil _ := rfl
  app _ xs ys := by simp
  len _ _ := rfl
  shal _ _ := rfl
  clo o x := by
    show (closedL (cs o x.parts) && true) = true
    rw [cs_clo]; rfl
  ro o x := by
    show [s1 x.name, b1 x.uniq, Cell.sl false x.parts.length 2 (roifyL (cs o x.parts))] = _
    rw [cs_ro]; rfl
  now _ := rfl
  pu x := by
    show (pureL (cs true x.parts) && true) = true
    rw [cs_pure]; rfl
abbrev dfC (o : Bool) (d : Df) : List Cell := [s1 d.name, slE o d.cols, slE o d.prim, slE o d.idx]
instance : Enc Df where
  sz := 4
  cs o l := l.flatMap (dfC o)
  nil _ := rfl
  app _ xs ys := by simp
  len _ _ := rfl
  shal _ _ := rfl
  clo o x := by
    show (closedL (cs o x.cols) && (closedL (cs o x.prim) && (closedL (cs o x.idx) && true))) = true
    rw [cs_clo, cs_clo, cs_clo]; rfl
  ro o x := by
    show [s1 x.name, Cell.sl false x.cols.length 3 (roifyL (cs o x.cols)), Cell.sl false x.prim.length 2 (roifyL (cs o x.prim)), Cell.sl false x.idx.length 3 (roifyL (cs o x.idx))] = _
    rw [cs_ro, cs_ro, cs_ro]; rfl
  now _ := rfl
  pu x := by
    show (pureL (cs true x.cols) && (pureL (cs true x.prim) && (pureL (cs true x.idx) && true))) = true
    rw [cs_pure, cs_pure, cs_pure]; rfl
abbrev opC (o : Bool) (x : Opn) : List Cell := [i6 x.kind, i6 x.t, slE o x.row]
instance : Enc Opn where
  sz := 3
  cs o l := l.flatMap (opC o)
  nil _ := rfl
  app _ xs ys := by simp
  len _ _ := rfl
  shal _ _ := rfl
  clo o x := by
    show (closedL (cs o x.row) && true) = true
    rw [cs_clo]; rfl
  ro o x := by
    show [i6 x.kind, i6 x.t, Cell.sl false x.row.length 3 (roifyL (cs o x.row))] = _
    rw [cs_ro]; rfl
  now _ := rfl
  pu x := by
    show (pureL (cs true x.row) && true) = true
    rw [cs_pure]; rfl
@[simp] theorem sz_vl : sz Vl = 3 := rfl
@[simp] theorem sz_cl : sz Cl = 3 := rfl
@[simp] theorem sz_by : sz By = 2 := rfl
@[simp] theorem sz_prt : sz Prt = 4 := rfl
@[simp] theorem sz_ix : sz Ix = 3 := rfl
@[simp] theorem sz_df : sz Df = 4 := rfl
@[simp] theorem sz_op : sz Opn = 3 := rfl
abbrev Row := List Vl
abbrev Tab := List Row
/-! ### Marks and sizes of them -/
abbrev zVl (v : Vl) : Nat := v.s.size
abbrev zRow (r : List Vl) : Nat := r.length + cnt zVl r
abbrev zTab (t : List (List Vl)) : Nat := t.length + cnt zRow t
abbrev zMdb (m : List (List (List Vl))) : Nat := m.length + cnt zTab m
abbrev zCl (c : Cl) : Nat := c.name.size
abbrev zIx (x : Ix) : Nat := x.name.size + x.parts.length
abbrev zDf (d : Df) : Nat := d.name.size + (d.cols.length + cnt zCl d.cols) + d.prim.length + (d.idx.length + cnt zIx d.idx)
abbrev zSc (s : List Df) : Nat := s.length + cnt zDf s
abbrev mV (a : Nat) (_ : Vl) : Vl := ⟨a, (a + 1 : Nat), mtx (a + 2)⟩
abbrev cR (r : List Vl) : Nat := 3 * r.length
abbrev mR (a : Nat) (r : List Vl) : List Vl := mkL (fun _ => 3) mV a r
abbrev cTb (t : List (List Vl)) : Nat := cnt cR t
abbrev mTb (a : Nat) (t : List (List Vl)) : List (List Vl) := mkL cR mR a t
abbrev mCl (a : Nat) (_ : Cl) : Cl := ⟨mtx a, (a + 1 : Nat), decide ((a + 2) % 3 = 0)⟩
abbrev mBp (a : Nat) (_ : By) : By := ⟨a, decide ((a + 1) % 3 = 0)⟩
abbrev cIx (x : Ix) : Nat := 2 + 2 * x.parts.length
abbrev mIx (a : Nat) (x : Ix) : Ix := ⟨mtx a, decide ((a + 1) % 3 = 0), mkL (fun _ => 2) mBp (a + 2) x.parts⟩
abbrev cDf (d : Df) : Nat := 1 + 3 * d.cols.length + 2 * d.prim.length + cnt cIx d.idx
abbrev mDf (a : Nat) (d : Df) : Df := ⟨mtx a, mkL (fun _ => 3) mCl (a + 1) d.cols, mkL (fun _ => 2) mBp (a + 1 + 3 * d.cols.length) d.prim, mkL cIx mIx (a + 1 + 3 * d.cols.length + 2 * d.prim.length) d.idx⟩
structure OkDf (d : Df) : Prop where
  cols : d.cols.length ≤ 10000000
  prim : d.prim.length ≤ 10000000
  idx : d.idx.length ≤ 10000000
  parts : ∀ x ∈ d.idx, x.parts.length ≤ 10000000
structure OkTb (t : List (List Vl)) : Prop where
  rows : t.length ≤ 10000000
  row : ∀ r ∈ t, r.length ≤ 10000000
structure BdRow (r : List Vl) : Prop where
  len : r.length ≤ 100000000000000
  val : ∀ v ∈ r, v.s.size ≤ 1000000000000000
structure BdTb (t : List (List Vl)) : Prop where
  len : t.length ≤ 100000000000000
  row : ∀ r ∈ t, BdRow r
structure BdMdb (m : List (List (List Vl))) : Prop where
  len : m.length ≤ 100000000000000
  tab : ∀ t ∈ m, BdTb t
structure BdIx (x : Ix) : Prop where
  name : x.name.size ≤ 1000000000000000
  parts : x.parts.length ≤ 100000000000000
structure BdDf (d : Df) : Prop where
  name : d.name.size ≤ 1000000000000000
  cols : d.cols.length ≤ 100000000000000
  col : ∀ c ∈ d.cols, c.name.size ≤ 1000000000000000
  prim : d.prim.length ≤ 100000000000000
  idx : d.idx.length ≤ 100000000000000
  ix : ∀ x ∈ d.idx, BdIx x
structure BdSc (s : List Df) : Prop where
  len : s.length ≤ 100000000000000
  df : ∀ d ∈ s, BdDf d
theorem OkDf.of {d : Df} (h : zDf d ≤ 2000000) : OkDf d := by
  unfold zDf at h
  refine ⟨by omega, by omega, by omega, fun x hx => ?_⟩
  have := cnt_mem (c := zIx) hx
  simp only [zIx] at this
  omega
theorem OkSc.of {s : List Df} (h : zSc s ≤ 2000000) : s.length ≤ 2000000 ∧ ∀ d ∈ s, OkDf d := by
  unfold zSc at h
  refine ⟨by omega, fun d hd => .of ?_⟩
  have := cnt_mem (c := zDf) hd
  omega
theorem OkTb.of {t : List (List Vl)} (h : zTab t ≤ 2000000) : OkTb t := by
  unfold zTab at h
  refine ⟨by omega, fun x hx => ?_⟩
  have := cnt_mem (c := zRow) hx
  simp only [zRow] at this
  omega
theorem OkMdb.of {m : List (List (List Vl))} (h : zMdb m ≤ 2000000) : m.length ≤ 2000000 ∧ ∀ t ∈ m, OkTb t := by
  unfold zMdb at h
  refine ⟨by omega, fun d hd => .of ?_⟩
  have := cnt_mem (c := zTab) hd
  omega
theorem len_cnt {α : Type} {c : α → Nat} (h : ∀ x, 1 ≤ c x) : ∀ l : List α, l.length ≤ cnt c l
  | [] => Nat.zero_le _
  | x :: l => by
    have h1 := h x
    have h2 := len_cnt h l
    simp only [cnt, List.length_cons]; omega

end Go.Proofs.YtopnaijeicknoaaGreatDoor
