/- The program's data. -/
import Derived.Test.YtacfohamlkbpjaaUi
namespace Go.Proofs.Ytacfohamlkbpjaa
open Go Go.RowKit
open Enc (sz cs)

abbrev i6 (n : Int) : Cell := .prim (.int .i64 n)
abbrev b1 (b : Bool) : Cell := .prim (.bool b)
abbrev s1 (s : ByteArray) : Cell := .prim (.string s)

structure Fau where
  pos : Int
  keep : Int
  cut : Int
structure Wri where
  n : Int
  b : List UInt8
structure Dsk where
  secs : List (List UInt8)
  cache : List Wri
  ops : Int
  faults : List Fau
  down : Bool
structure Met where
  gen : Int
  root : Int
structure Nod where
  leaf : Bool
  keys : List ByteArray
  vals : List ByteArray
  kids : List Int
structure Fre where
  n : Int
  x : Nod
structure Txn where
  d : Dsk
  m : Met
  root : Int
  new : List Fre
structure Pai where
  key : ByteArray
  val : ByteArray

abbrev fauC (f : Fau) : List Cell := [i6 f.pos, i6 f.keep, i6 f.cut]
abbrev wriC (o : Bool) (w : Wri) : List Cell := [i6 w.n, slE o w.b]
abbrev metC (m : Met) : List Cell := [i6 m.gen, i6 m.root]
abbrev nodC (o : Bool) (x : Nod) : List Cell := [b1 x.leaf, slE o x.keys, slE o x.vals, slE o x.kids]
abbrev freC (o : Bool) (f : Fre) : List Cell := i6 f.n :: nodC o f.x
abbrev paiC (p : Pai) : List Cell := [s1 p.key, s1 p.val]

instance : Enc Fau where
  sz := 3
  cs _ l := l.flatMap fauC
  nil _ := rfl
  app _ xs ys := by simp
  len _ _ := rfl
  shal _ _ := rfl
  clo _ _ := rfl
  ro _ _ := rfl
  now _ := rfl
  pu _ := rfl

instance : Enc Pai where
  sz := 2
  cs _ l := l.flatMap paiC
  nil _ := rfl
  app _ xs ys := by simp
  len _ _ := rfl
  shal _ _ := rfl
  clo _ _ := rfl
  ro _ _ := rfl
  now _ := rfl
  pu _ := rfl

instance : Enc Wri where
  sz := 2
  cs o l := l.flatMap (wriC o)
  nil _ := rfl
  app _ xs ys := by simp
  len _ _ := rfl
  shal _ _ := rfl
  clo o x := by
    show (closedL (cs o x.b) && true) = true
    rw [cs_clo]; rfl
  ro o x := by
    show [i6 x.n, Cell.sl false x.b.length 1 (roifyL (cs o x.b))] = _
    rw [cs_ro]; rfl
  now _ := rfl
  pu x := by
    show (pureL (cs true x.b) && true) = true
    rw [cs_pure]; rfl

instance : Enc Fre where
  sz := 5
  cs o l := l.flatMap (freC o)
  nil _ := rfl
  app _ xs ys := by simp
  len _ _ := rfl
  shal _ _ := rfl
  clo o x := by
    show (closedL (cs o x.x.keys) && (closedL (cs o x.x.vals) && (closedL (cs o x.x.kids) && true))) = true
    rw [cs_clo, cs_clo, cs_clo]; rfl
  ro o x := by
    show [i6 x.n, b1 x.x.leaf, Cell.sl false x.x.keys.length 1 (roifyL (cs o x.x.keys)), Cell.sl false x.x.vals.length 1 (roifyL (cs o x.x.vals)), Cell.sl false x.x.kids.length 1 (roifyL (cs o x.x.kids))] = _
    rw [cs_ro, cs_ro, cs_ro]; rfl
  now _ := rfl
  pu x := by
    show (pureL (cs true x.x.keys) && (pureL (cs true x.x.vals) && (pureL (cs true x.x.kids) && true))) = true
    rw [cs_pure, cs_pure, cs_pure]; rfl

@[simp] theorem sz_fau : sz Fau = 3 := rfl
@[simp] theorem sz_wri : sz Wri = 2 := rfl
@[simp] theorem sz_fre : sz Fre = 5 := rfl
@[simp] theorem sz_pai : sz Pai = 2 := rfl

abbrev dskC (o : Bool) (d : Dsk) : List Cell := [slE o d.secs, slE o d.cache, i6 d.ops, slE o d.faults, b1 d.down]
abbrev txnC (o : Bool) (t : Txn) : List Cell := [slE o t.d.secs, slE o t.d.cache, i6 t.d.ops, slE o t.d.faults, b1 t.d.down, i6 t.m.gen, i6 t.m.root, i6 t.root, slE o t.new]

end Go.Proofs.Ytacfohamlkbpjaa
