/- The data of the program, and what its functions compute. -/
import Derived.Test.YtopnaijeicknoaaGreatDoorKd
import Derived.IntWalk
namespace Go.Proofs.YtopnaijeicknoaaGreatDoor

section
open Go Go.RowKit
open Enc (sz cs)

abbrev i6 (n : Int) : Cell := .prim (.int .i64 n)
abbrev b1 (b : Bool) : Cell := .prim (.bool b)
abbrev s1 (s : ByteArray) : Cell := .prim (.string s)

structure Fau where
  pos : Int
  keep : Int
  cut : Int
structure Wri where
  n : Int
  b : List UInt8
structure Dsk where
  secs : List (List UInt8)
  cache : List Wri
  ops : Int
  faults : List Fau
  down : Bool
structure Met where
  gen : Int
  root : Int
structure Nod where
  leaf : Bool
  keys : List ByteArray
  vals : List ByteArray
  kids : List Int
structure Fre where
  n : Int
  x : Nod
structure Txn where
  d : Dsk
  m : Met
  root : Int
  new : List Fre
structure Pai where
  key : ByteArray
  val : ByteArray

abbrev fauC (f : Fau) : List Cell := [i6 f.pos, i6 f.keep, i6 f.cut]
abbrev wriC (o : Bool) (w : Wri) : List Cell := [i6 w.n, slE o w.b]
abbrev metC (m : Met) : List Cell := [i6 m.gen, i6 m.root]
abbrev nodC (o : Bool) (x : Nod) : List Cell := [b1 x.leaf, slE o x.keys, slE o x.vals, slE o x.kids]
abbrev freC (o : Bool) (f : Fre) : List Cell := i6 f.n :: nodC o f.x
abbrev paiC (p : Pai) : List Cell := [s1 p.key, s1 p.val]

instance : Enc Fau where
  sz := 3
  cs _ l := l.flatMap fauC
  nil _ := rfl
  app _ xs ys := by simp
  len _ _ := rfl
  shal _ _ := rfl
  clo _ _ := rfl
  ro _ _ := rfl
  now _ := rfl
  pu _ := rfl

instance : Enc Pai where
  sz := 2
  cs _ l := l.flatMap paiC
  nil _ := rfl
  app _ xs ys := by simp
  len _ _ := rfl
  shal _ _ := rfl
  clo _ _ := rfl
  ro _ _ := rfl
  now _ := rfl
  pu _ := rfl

instance : Enc Wri where
  sz := 2
  cs o l := l.flatMap (wriC o)
  nil _ := rfl
  app _ xs ys := by simp
  len _ _ := rfl
  shal _ _ := rfl
  clo o x := by
    show (closedL (cs o x.b) && true) = true
    rw [cs_clo]; rfl
  ro o x := by
    show [i6 x.n, Cell.sl false x.b.length 1 (roifyL (cs o x.b))] = _
    rw [cs_ro]; rfl
  now _ := rfl
  pu x := by
    show (pureL (cs true x.b) && true) = true
    rw [cs_pure]; rfl

instance : Enc Fre where
  sz := 5
  cs o l := l.flatMap (freC o)
  nil _ := rfl
  app _ xs ys := by simp
  len _ _ := rfl
  shal _ _ := rfl
  clo o x := by
    show (closedL (cs o x.x.keys) && (closedL (cs o x.x.vals) && (closedL (cs o x.x.kids) && true))) = true
    rw [cs_clo, cs_clo, cs_clo]; rfl
  ro o x := by
    show [i6 x.n, b1 x.x.leaf, Cell.sl false x.x.keys.length 1 (roifyL (cs o x.x.keys)), Cell.sl false x.x.vals.length 1 (roifyL (cs o x.x.vals)), Cell.sl false x.x.kids.length 1 (roifyL (cs o x.x.kids))] = _
    rw [cs_ro, cs_ro, cs_ro]; rfl
  now _ := rfl
  pu x := by
    show (pureL (cs true x.x.keys) && (pureL (cs true x.x.vals) && (pureL (cs true x.x.kids) && true))) = true
    rw [cs_pure, cs_pure, cs_pure]; rfl

@[simp] theorem sz_fau : sz Fau = 3 := rfl
@[simp] theorem sz_wri : sz Wri = 2 := rfl
@[simp] theorem sz_fre : sz Fre = 5 := rfl
@[simp] theorem sz_pai : sz Pai = 2 := rfl

abbrev dskC (o : Bool) (d : Dsk) : List Cell := [slE o d.secs, slE o d.cache, i6 d.ops, slE o d.faults, b1 d.down]
abbrev txnC (o : Bool) (t : Txn) : List Cell := [slE o t.d.secs, slE o t.d.cache, i6 t.d.ops, slE o t.d.faults, b1 t.d.down, i6 t.m.gen, i6 t.m.root, i6 t.root, slE o t.new]
end

section
open Go Go.RowKit Go.IntWalk
open Enc (sz cs)

theorem i64_suc {x : Nat} (h : x < 9223372036854775807) : IntKind.i64.wrap ((x : Int) + 1) = ((x + 1 : Nat) : Int) := (i64_in _ (by omega)).trans (by omega)
theorem i64_nat {x y : Nat} (h : x + y ≤ 9223372036854775807) : IntKind.i64.wrap ((x : Int) + (y : Int)) = ((x + y : Nat) : Int) := (i64_in _ (by omega)).trans (by omega)
theorem u8n (n : Nat) : IntKind.wrap .u8 (n : Int) = ((UInt8.ofNat n).toNat : Int) := by
  rw [IntKind.wrap_u8, UInt8.toNat_ofNat']
  omega

section
variable {α : Type}
/-- Each value marked, one behind the other; `c`: how many marks a value takes. -/
def mkL (c : α → Nat) (f : Nat → α → α) : Nat → List α → List α
  | _, [] => []
  | a, x :: xs => f a x :: mkL c f (a + c x) xs

def cnt (c : α → Nat) : List α → Nat
  | [] => 0
  | x :: xs => c x + cnt c xs

variable {c : α → Nat} {f : Nat → α → α}
@[simp] theorem mkL_len : ∀ {xs : List α} {a : Nat}, (mkL c f a xs).length = xs.length
  | [], _ => rfl
  | x :: xs, a => by simp [mkL, mkL_len (xs := xs)]
theorem cnt_app : ∀ {xs ys : List α}, cnt c (xs ++ ys) = cnt c xs + cnt c ys
  | [], ys => by simp [cnt]
  | x :: xs, ys => by simp [cnt, cnt_app (xs := xs), Nat.add_assoc]
theorem mkL_app : ∀ {xs ys : List α} {a : Nat}, mkL c f a (xs ++ ys) = mkL c f a xs ++ mkL c f (a + cnt c xs) ys
  | [], ys, a => by simp [cnt, mkL]
  | x :: xs, ys, a => by simp [cnt, mkL, mkL_app (xs := xs), Nat.add_assoc]
theorem take_one {xs : List α} {i : Nat} (h : i < xs.length) : xs.take (i + 1) = xs.take i ++ [xs[i]] := (List.take_succ_eq_append_getElem h)
theorem cnt_take {xs : List α} {i : Nat} (h : i < xs.length) : cnt c (xs.take (i + 1)) = cnt c (xs.take i) + c xs[i] := by
  rw [take_one h, cnt_app]; simp [cnt]
theorem mkL_take {xs : List α} {i a : Nat} (h : i < xs.length) : mkL c f a (xs.take (i + 1)) = mkL c f a (xs.take i) ++ [f (a + cnt c (xs.take i)) xs[i]] := by
  rw [take_one h, mkL_app]; rfl
theorem mkL_get : ∀ {xs : List α} {i a : Nat} (h : i < xs.length), (mkL c f a xs)[i]'(by simp [h]) = f (a + cnt c (xs.take i)) xs[i]
  | x :: xs, 0, a, _ => by simp [mkL, cnt]
  | x :: xs, i + 1, a, h => by
    simp only [mkL, List.getElem_cons_succ, List.take_succ_cons, cnt]
    rw [mkL_get (by simpa using h), Nat.add_assoc]
theorem cnt_le {xs : List α} {i : Nat} : cnt c (xs.take i) ≤ cnt c xs := by
  conv => rhs; rw [← List.take_append_drop i xs, cnt_app]
  omega
theorem cnt_one (xs : List α) : cnt (fun _ => 1) xs = xs.length := by
  induction xs with
  | nil => rfl
  | cons x xs ih => simp [cnt, ih]; omega
theorem cnt_take_one {xs : List α} {i : Nat} (h : i ≤ xs.length) : cnt (fun _ => 1) (xs.take i) = i := by rw [cnt_one]; simp [h]
/-- A list in the midst of being turned. -/
theorem set_mid {A xs : List α} {i : Nat} {y : α} (hA : A.length = i) (h : i < xs.length) : (A ++ xs.drop i).set i y = A ++ [y] ++ xs.drop (i + 1) := by
  subst hA
  rw [List.set_append_right _ _ (Nat.le_refl _), Nat.sub_self, List.drop_eq_getElem_cons h, List.set_cons_zero]; simp
theorem get_mid {A xs : List α} {i : Nat} (hA : A.length = i) (h : i < xs.length) : (A ++ xs.drop i)[i]'(by simp [hA]; omega) = xs[i] := by
  subst hA
  rw [List.getElem_append_right (Nat.le_refl _)]; simp
end
/-- What is left of room `left` behind something of size `n`; -1: it is too large. -/
def szR (left : Int) (n : Nat) : Int := if left < n then -1 else left - n
theorem szR_neg {l : Int} {n : Nat} (h : szR l n < 0) : l < n := by unfold szR at h; split at h <;> omega
theorem szR_pos {l : Int} {n : Nat} (h : ¬ szR l n < 0) : (n : Int) ≤ l ∧ szR l n = l - n := by unfold szR at *; split at h <;> simp_all <;> omega

/-- A list in the midst of being filled. -/
theorem zeros_len {z : List Cell} : ∀ {n : Nat}, (zerosT z n).length = n * z.length
  | 0 => by simp [zerosT]
  | n + 1 => by
    have := zeros_len (z := z) (n := n)
    simp [zerosT, Nat.succ_mul]
theorem zeros_succ {z : List Cell} {n : Nat} : zerosT z (n + 1) = z ++ zerosT z n := by simp [zerosT, List.replicate_succ]
theorem zeros_shal {z : List Cell} (h : z.all Cell.shal = true) : ∀ {n : Nat}, (zerosT z n).all Cell.shal = true
  | 0 => rfl
  | n + 1 => by rw [zeros_succ, List.all_append, h, zeros_shal h]; rfl
@[simp] theorem zeros_clo {z : List Cell} (h : closedL z = true) : ∀ {n : Nat}, closedL (zerosT z n) = true
  | 0 => rfl
  | n + 1 => by rw [zeros_succ, closedL_append, h, zeros_clo h]; rfl
/-- Put at the first place that is not filled. -/
theorem ptz {α : Type} [Enc α] {xs : List α} {i n s : Nat} {z c : List Cell} (h : i < n) (hi : i ≤ xs.length) (hs : sz α = s := by rfl) (hz : z.length = s := by rfl) (hc : c.length = s := by rfl) :
    put (cs true (xs.take i) ++ zerosT z (n - i)) (i * s) c = some (cs true (xs.take i) ++ c ++ zerosT z (n - (i + 1))) := by
  subst hs
  obtain ⟨m, hm⟩ : ∃ m, n - i = m + 1 := ⟨n - i - 1, by omega⟩
  rw [hm, zeros_succ, ← List.append_assoc, ← Nat.add_zero (i * sz α), put_mid (cs_take_len hi).symm (put_all (by omega)), show n - (i + 1) = m by omega]

theorem fil {α : Type} [Enc α] {xs : List α} {i : Nat} {o : Bool} {c C : List Cell} (h : i < xs.length) (hc : c = cs o [xs[i]]) : cs o (xs.take i) ++ c ++ C = cs o (xs.take (i + 1)) ++ C := by
  subst hc; rw [take_one h, Enc.app]
theorem fil2 {α : Type} [Enc α] {xs : List α} {i : Nat} {o : Bool} {p q C : List Cell} (h : i < xs.length) (hc : p ++ q = cs o [xs[i]]) : cs o (xs.take i) ++ p ++ q ++ C = cs o (xs.take (i + 1)) ++ C := by
  rw [List.append_assoc (cs o _) p q, fil h hc]
/-- .. a value that lies whole in its cells. -/
theorem ptp {α : Type} [Enc α] {xs : List α} {i n s : Nat} {z c : List Cell} (h : i < xs.length) (hn : n = xs.length) (hc : c = cs true [xs[i]]) (hs : sz α = s := by rfl) (hz : z.length = s := by rfl) :
    put (cs true (xs.take i) ++ zerosT z (n - i)) (i * s) c = some (cs true (xs.take (i + 1)) ++ zerosT z (n - (i + 1))) := by
  rw [ptz (by omega) (by omega) hs hz (by rw [hc, Enc.len, hs]), fil h hc]
theorem fil_all {α : Type} [Enc α] {xs : List α} {i n : Nat} {z : List Cell} (h : i = xs.length) (hn : n = i) : cs true (xs.take i) ++ zerosT z (n - i) = cs true xs := by
  subst hn h; simp [zerosT]
theorem mks {n b : Nat} (h : n ≤ 100000000) (hb : Nat.ble b 1000 = true := by rfl) : ((n : Nat) : Int).toNat * b ≤ bigB := by
  have h2 := Nat.le_of_ble_eq_true hb
  have := Nat.mul_le_mul h h2
  unfold bigB; rw [Int.toNat_natCast]; omega

theorem mkf {α : Type} [Enc α] {c : α → Nat} {f : Nat → α → α} {xs : List α} {i a : Nat} {M : List Cell} (h : i < xs.length) (hM : M = cs true [f (a + cnt c (xs.take i)) xs[i]]) :
    cs true (mkL c f a (xs.take i)) ++ M ++ cs true (xs.drop (i + 1)) = cs true (mkL c f a (xs.take (i + 1)) ++ xs.drop (i + 1)) := by
  subst hM; rw [mkL_take h, Enc.app, Enc.app]
theorem mkf2 {α : Type} [Enc α] {c : α → Nat} {f : Nat → α → α} {xs : List α} {i a : Nat} {M N : List Cell} (h : i < xs.length) (hM : M ++ N = cs true [f (a + cnt c (xs.take i)) xs[i]]) :
    cs true (mkL c f a (xs.take i)) ++ M ++ N ++ cs true (xs.drop (i + 1)) = cs true (mkL c f a (xs.take (i + 1)) ++ xs.drop (i + 1)) := by
  rw [List.append_assoc (cs true _) M N, mkf h hM]
theorem cnt_const (k : Nat) {α : Type} (xs : List α) : cnt (fun _ => k) xs = k * xs.length := by
  induction xs with
  | nil => rfl
  | cons x xs ih => simp [cnt, ih, Nat.mul_succ]; omega
theorem cnt_take_const (k : Nat) {α : Type} {xs : List α} {i : Nat} (h : i ≤ xs.length) : cnt (fun _ => k) (xs.take i) = k * i := by rw [cnt_const]; simp [h]
/-! ### Marks and sizes of the program's data -/
def digs (a : Nat) : List UInt8 := if _h : a = 0 then [] else digs (a / 10) ++ [UInt8.ofNat (48 + a % 10)]
theorem digs_pos {a : Nat} (h : 0 < a) : digs a = digs (a / 10) ++ [UInt8.ofNat (48 + a % 10)] := by rw [digs, dif_neg (by omega)]
theorem digs_zero : digs 0 = [] := by rw [digs, dif_pos rfl]
theorem digs_len : ∀ (k a : Nat), a < 10 ^ k → (digs a).length ≤ k
  | 0, a, h => by obtain rfl : a = 0 := by omega
                  rw [digs_zero]; simp
  | k + 1, a, h => by
    by_cases h0 : a = 0
    · subst h0; rw [digs_zero]; simp
    · rw [digs_pos (by omega), List.length_append]
      have := digs_len k (a / 10) (by rw [Nat.pow_succ] at h; omega)
      simp; omega
def mtx (a : Nat) : ByteArray := if a = 0 then sb [109, 48] else sb (109 :: digs a)
theorem sb_app (a b : List UInt8) : sb a ++ sb b = sb (a ++ b) := by
  apply ByteArray.ext
  simp [sb]
theorem sb_len (a : List UInt8) : (sb a).size = a.length := by simp [ByteArray.size]

abbrev mB (a : Nat) (xs : List UInt8) : List UInt8 := mkL (fun _ => 1) (fun a _ => UInt8.ofNat a) a xs
abbrev mI (a : Nat) (xs : List Int) : List Int := mkL (fun _ => 1) (fun a _ => (a : Int)) a xs
abbrev mS (a : Nat) (xs : List ByteArray) : List ByteArray := mkL (fun _ => 1) (fun a _ => mtx a) a xs
abbrev mBS (a : Nat) (xs : List (List UInt8)) : List (List UInt8) := mkL List.length mB a xs
abbrev cW (w : Wri) : Nat := 1 + w.b.length
abbrev mW (a : Nat) (w : Wri) : Wri := ⟨a, mB (a + 1) w.b⟩
abbrev mWS (a : Nat) (xs : List Wri) : List Wri := mkL cW mW a xs
abbrev mF (a : Nat) (_ : Fau) : Fau := ⟨a, (a + 1 : Nat), (a + 2 : Nat)⟩
abbrev mFS (a : Nat) (xs : List Fau) : List Fau := mkL (fun _ => 3) mF a xs
abbrev mP (a : Nat) (_ : Pai) : Pai := ⟨mtx a, mtx (a + 1)⟩
abbrev mPS (a : Nat) (xs : List Pai) : List Pai := mkL (fun _ => 2) mP a xs
abbrev cN (x : Nod) : Nat := x.keys.length + x.vals.length + x.kids.length
abbrev mN (a : Nat) (x : Nod) : Nod := ⟨x.leaf, mS a x.keys, mS (a + x.keys.length) x.vals, mI (a + x.keys.length + x.vals.length) x.kids⟩
abbrev cFr (x : Fre) : Nat := 2 + x.x.keys.length + x.x.vals.length + x.x.kids.length
abbrev mFr (a : Nat) (x : Fre) : Fre := ⟨a, decide ((a + 1) % 3 = 0), mS (a + 2) x.x.keys, mS (a + 2 + x.x.keys.length) x.x.vals, mI (a + 2 + x.x.keys.length + x.x.vals.length) x.x.kids⟩
abbrev mFrS (a : Nat) (xs : List Fre) : List Fre := mkL cFr mFr a xs
abbrev cD (d : Dsk) : Nat := cnt List.length d.secs + cnt cW d.cache + 3 * d.faults.length
abbrev cT (t : Txn) : Nat := cD t.d + cnt cFr t.new
/-- Sizes. -/
abbrev zBS (xs : List (List UInt8)) : Nat := xs.length + cnt List.length xs
abbrev zWS (xs : List Wri) : Nat := xs.length + cnt (fun w : Wri => w.b.length) xs
abbrev zSS (xs : List ByteArray) : Nat := xs.length + cnt ByteArray.size xs
abbrev zN (x : Nod) : Nat := zSS x.keys + zSS x.vals + x.kids.length
abbrev zFrS (xs : List Fre) : Nat := xs.length + cnt (fun f : Fre => zN f.x) xs
abbrev zD (d : Dsk) : Nat := zBS d.secs + zWS d.cache + d.faults.length
abbrev zT (t : Txn) : Nat := zD t.d + zFrS t.new

/-! ### Bounds -/
structure OkD (d : Dsk) : Prop where
  secs : d.secs.length ≤ 10000000
  sec : ∀ x ∈ d.secs, x.length ≤ 10000000
  cache : d.cache.length ≤ 10000000
  wri : ∀ x ∈ d.cache, x.b.length ≤ 10000000
  faults : d.faults.length ≤ 10000000
structure OkN (x : Nod) : Prop where
  keys : x.keys.length ≤ 10000000
  vals : x.vals.length ≤ 10000000
  kids : x.kids.length ≤ 10000000
structure OkT (t : Txn) : Prop where
  d : OkD t.d
  new : t.new.length ≤ 10000000
  nod : ∀ f ∈ t.new, OkN f.x
structure BdN (x : Nod) : Prop where
  keys : x.keys.length ≤ 100000000000000
  key : ∀ s ∈ x.keys, s.size ≤ 1000000000000000
  vals : x.vals.length ≤ 100000000000000
  val : ∀ s ∈ x.vals, s.size ≤ 1000000000000000
  kids : x.kids.length ≤ 100000000000000
structure BdD (d : Dsk) : Prop where
  secs : d.secs.length ≤ 100000000000000
  sec : ∀ x ∈ d.secs, x.length ≤ 1000000000000000
  cache : d.cache.length ≤ 100000000000000
  wri : ∀ x ∈ d.cache, x.b.length ≤ 1000000000000000
  faults : d.faults.length ≤ 100000000000000
structure BdT (t : Txn) : Prop where
  d : BdD t.d
  new : t.new.length ≤ 100000000000000
  nod : ∀ f ∈ t.new, BdN f.x
theorem cnt_mem {α : Type} {c : α → Nat} : ∀ {xs : List α} {x : α}, x ∈ xs → c x ≤ cnt c xs
  | y :: xs, x, h => by
    rcases List.mem_cons.1 h with rfl | h
    · simp [cnt]
    · have := cnt_mem (c := c) h
      simp [cnt]; omega
end

section
open Go Go.RowKit Go.IntWalk
open Enc (sz cs)

def clampI (n : Int) : Int := max 0 (min n 1000000)
/-- A number as it is written. -/
def clN (n : Int) : Nat := (clampI n).toNat
theorem clN_le (n : Int) : clN n ≤ 1000000 := by unfold clN clampI; omega
theorem clN_nat {n : Nat} (h : n ≤ 1000000) : clN n = n := by unfold clN clampI; omega
theorem clN_int {n : Int} (h : 0 ≤ n ∧ n ≤ 1000000) : ((clN n : Nat) : Int) = n := by unfold clN clampI; omega
theorem cl_eq (n : Int) : clampI n = (clN n : Int) := by unfold clN clampI; omega

def uenc (n : Nat) : List UInt8 := if n ≤ 127 then [UInt8.ofNat n] else UInt8.ofNat (n % 128 + 128) :: uenc (n / 128)
theorem uenc_small {n : Nat} (h : n ≤ 127) : uenc n = [UInt8.ofNat n] := by rw [uenc, if_pos h]
theorem uenc_big {n : Nat} (h : ¬ n ≤ 127) : uenc n = UInt8.ofNat (n % 128 + 128) :: uenc (n / 128) := by rw [uenc, if_neg h]
theorem uenc_len {n : Nat} (h : n ≤ 1000000) : (uenc n).length ≤ 3 := by
  rw [uenc]
  split
  · simp
  · rw [uenc]
    split
    · simp
    · rw [uenc, if_pos (by omega)]; simp
theorem uenc_pos (n : Nat) : 0 < (uenc n).length := by
  rw [uenc]; split <;> simp
/-- A number behind bytes. -/
abbrev ptU (b : List UInt8) (n : Int) : List UInt8 := b ++ uenc (clN n)
/-- A text behind bytes. -/
abbrev ptT (b s : List UInt8) : List UInt8 := b ++ uenc (clN s.length) ++ s

/-! ### The sum -/
def stepN (x : Nat) : Nat := if x % 2 = 1 then (x / 2) ^^^ 2197175160 else x / 2
def stepsN : Nat → Nat → Nat
  | 0, x => x
  | k + 1, x => stepN (stepsN k x)
def roundN (x : Nat) (b : UInt8) : Nat := stepsN 8 (x ^^^ b.toNat)
def crcX (bs : List UInt8) : Nat := bs.foldl roundN 4294967295
def crcN (bs : List UInt8) : Nat := crcX bs ^^^ 4294967295

theorem xor_lt32 {a b : Nat} (ha : a < 4294967296) (hb : b < 4294967296) : a ^^^ b < 4294967296 := Nat.xor_lt_two_pow (n := 32) ha hb
theorem stepN_lt {x : Nat} (h : x < 4294967296) : stepN x < 4294967296 := by
  unfold stepN
  split
  · exact xor_lt32 (by omega) (by omega)
  · omega
theorem stepsN_lt {x : Nat} (h : x < 4294967296) : ∀ k, stepsN k x < 4294967296
  | 0 => h
  | k + 1 => stepN_lt (stepsN_lt h k)
theorem u8_lt (b : UInt8) : b.toNat < 256 := b.toNat_lt
theorem roundN_lt {x : Nat} (h : x < 4294967296) (b : UInt8) : roundN x b < 4294967296 := stepsN_lt (xor_lt32 h (by have := u8_lt b; omega)) 8
theorem foldl_lt : ∀ (bs : List UInt8) {x : Nat}, x < 4294967296 → bs.foldl roundN x < 4294967296
  | [], _, h => h
  | b :: bs, _, h => foldl_lt bs (roundN_lt h b)
theorem crcX_lt (bs : List UInt8) : crcX bs < 4294967296 := foldl_lt bs (by omega)
theorem crcN_lt (bs : List UInt8) : crcN bs < 4294967296 := xor_lt32 (crcX_lt bs) (by omega)
theorem crcX_take (bs : List UInt8) {i : Nat} (h : i < bs.length) : crcX (bs.take (i + 1)) = roundN (crcX (bs.take i)) bs[i] := by
  unfold crcX
  rw [List.take_succ_eq_append_getElem h, List.foldl_append]
  rfl
def be4 (n : Nat) : List UInt8 := [UInt8.ofNat (n / 16777216), UInt8.ofNat (n / 65536), UInt8.ofNat (n / 256), UInt8.ofNat n]
/-- Bytes with their sum behind them. -/
def ptS (b : List UInt8) : List UInt8 := b ++ be4 (crcN b)

/-! ### Bits -/
theorem ofInt_nat (m : Nat) : BitVec.ofInt 64 (m : Int) = BitVec.ofNat 64 m := by simp
theorem ofInt_nat32 (m : Nat) : BitVec.ofInt 32 (m : Int) = BitVec.ofNat 32 m := by simp
theorem and64 {m : Nat} (k : Nat) (hk : k ≤ 63) (h : m < 9223372036854775808) : IntKind.i64.wrap ((BitVec.ofInt IntKind.i64.bits (m : Int) &&& BitVec.ofInt IntKind.i64.bits ((2 ^ k - 1 : Nat) : Int)).toNat : Int) = ((m % 2 ^ k : Nat) : Int) := by
  have h2 : 2 ^ k ≤ 2 ^ 63 := Nat.pow_le_pow_right (by decide) hk
  have h3 : 0 < 2 ^ k := Nat.two_pow_pos k
  have e : (BitVec.ofInt IntKind.i64.bits (m : Int) &&& BitVec.ofInt IntKind.i64.bits ((2 ^ k - 1 : Nat) : Int)).toNat = m % 2 ^ k := by
    show (BitVec.ofInt 64 (m : Int) &&& BitVec.ofInt 64 ((2 ^ k - 1 : Nat) : Int)).toNat = m % 2 ^ k
    rw [ofInt_nat, ofInt_nat, BitVec.toNat_and, BitVec.toNat_ofNat, BitVec.toNat_ofNat, Nat.mod_eq_of_lt (by omega), Nat.mod_eq_of_lt (show 2 ^ k - 1 < 2 ^ 64 by omega)]
    exact Nat.and_two_pow_sub_one_eq_mod m k
  have : m % 2 ^ k ≤ m := Nat.mod_le _ _
  rw [e]; exact i64_in _ (by omega)
theorem and127 {m : Nat} (h : m < 9223372036854775808) : IntKind.i64.wrap ((BitVec.ofInt IntKind.i64.bits (m : Int) &&& BitVec.ofInt IntKind.i64.bits 127).toNat : Int) = ((m % 128 : Nat) : Int) := and64 7 (by decide) h
theorem and1 {m : Nat} (h : m < 9223372036854775808) : IntKind.i64.wrap ((BitVec.ofInt IntKind.i64.bits (m : Int) &&& BitVec.ofInt IntKind.i64.bits 1).toNat : Int) = ((m % 2 : Nat) : Int) := and64 1 (by decide) h
theorem or128 {m : Nat} (h : m < 128) : IntKind.i64.wrap ((BitVec.ofInt IntKind.i64.bits (m : Int) ||| BitVec.ofInt IntKind.i64.bits 128).toNat : Int) = ((m + 128 : Nat) : Int) := by
  have e : (BitVec.ofInt IntKind.i64.bits (m : Int) ||| BitVec.ofInt IntKind.i64.bits 128).toNat = m + 128 := by
    show (BitVec.ofInt 64 (m : Int) ||| BitVec.ofInt 64 ((128 : Nat) : Int)).toNat = m + 128
    rw [ofInt_nat, ofInt_nat, BitVec.toNat_or, BitVec.toNat_ofNat, BitVec.toNat_ofNat, Nat.mod_eq_of_lt (by omega)]
    have := Nat.two_pow_add_eq_or_of_lt (i := 7) (b := m) (by omega) 1
    rw [Nat.or_comm]
    simp at this ⊢; omega
  rw [e]; exact i64_in _ (by omega)
theorem xor64 {a b : Nat} (ha : a < 4294967296) (hb : b < 4294967296) : IntKind.i64.wrap ((BitVec.ofInt IntKind.i64.bits (a : Int) ^^^ BitVec.ofInt IntKind.i64.bits (b : Int)).toNat : Int) = ((a ^^^ b : Nat) : Int) := by
  have e : (BitVec.ofInt IntKind.i64.bits (a : Int) ^^^ BitVec.ofInt IntKind.i64.bits (b : Int)).toNat = a ^^^ b := by
    show (BitVec.ofInt 64 (a : Int) ^^^ BitVec.ofInt 64 (b : Int)).toNat = a ^^^ b
    rw [ofInt_nat, ofInt_nat, BitVec.toNat_xor, BitVec.toNat_ofNat, BitVec.toNat_ofNat, Nat.mod_eq_of_lt (by omega), Nat.mod_eq_of_lt (by omega)]
  have := xor_lt32 ha hb
  rw [e]; exact i64_in _ (by omega)
theorem u32_in {n : Nat} (h : n < 4294967296) : IntKind.u32.wrap (n : Int) = n := by rw [IntKind.wrap_u32]; omega
theorem xor32 {a b : Nat} (ha : a < 4294967296) (hb : b < 4294967296) : IntKind.u32.wrap ((BitVec.ofInt IntKind.u32.bits (a : Int) ^^^ BitVec.ofInt IntKind.u32.bits (b : Int)).toNat : Int) = ((a ^^^ b : Nat) : Int) := by
  have e : (BitVec.ofInt IntKind.u32.bits (a : Int) ^^^ BitVec.ofInt IntKind.u32.bits (b : Int)).toNat = a ^^^ b := by
    show (BitVec.ofInt 32 (a : Int) ^^^ BitVec.ofInt 32 (b : Int)).toNat = a ^^^ b
    rw [ofInt_nat32, ofInt_nat32, BitVec.toNat_xor, BitVec.toNat_ofNat, BitVec.toNat_ofNat, Nat.mod_eq_of_lt (by omega), Nat.mod_eq_of_lt (by omega)]
  rw [e]; exact u32_in (xor_lt32 ha hb)
theorem and32_1 {a : Nat} (ha : a < 4294967296) : IntKind.u32.wrap ((BitVec.ofInt IntKind.u32.bits (a : Int) &&& BitVec.ofInt IntKind.u32.bits 1).toNat : Int) = ((a % 2 : Nat) : Int) := by
  have e : (BitVec.ofInt IntKind.u32.bits (a : Int) &&& BitVec.ofInt IntKind.u32.bits 1).toNat = a % 2 := by
    show (BitVec.ofInt 32 (a : Int) &&& BitVec.ofInt 32 ((1 : Nat) : Int)).toNat = a % 2
    rw [ofInt_nat32, ofInt_nat32, BitVec.toNat_and, BitVec.toNat_ofNat, BitVec.toNat_ofNat, Nat.mod_eq_of_lt (by omega)]
    exact Nat.and_two_pow_sub_one_eq_mod a 1
  rw [e]; exact u32_in (by omega)
theorem shrN (a k : Nat) : (a : Int).fdiv (2 ^ k) = ((a / 2 ^ k : Nat) : Int) := by
  rw [Int.fdiv_eq_ediv_of_nonneg _ (by exact_mod_cast (Nat.zero_le (2 ^ k)))]
  exact_mod_cast rfl
theorem shr1 (a : Nat) : (a : Int).fdiv (2 ^ 1) = ((a / 2 : Nat) : Int) := shrN a 1
theorem i64_of {n : Nat} (h : n ≤ 9223372036854775807) : IntKind.i64.wrap (n : Int) = n := i64_in _ (by omega)
theorem quo128 (m : Nat) (h : m ≤ 9223372036854775807) : IntKind.i64.wrap ((m : Int).tdiv 128) = ((m / 128 : Nat) : Int) := i64_quo m 128 (by omega)

/-! ### Room -/
theorem bg {n m b : Nat} (h : n + m ≤ 100000000) (hb : Nat.ble b 1000 = true := by rfl) : (n + m) * b ≤ bigB := by
  have h2 := Nat.le_of_ble_eq_true hb
  have := Nat.mul_le_mul h h2
  unfold bigB; omega
theorem bg1 {n b : Nat} (h : n ≤ 100000000) (hb : Nat.ble b 1000 = true := by rfl) : n * b ≤ bigB := bg (m := 0) h hb
theorem bgb {n : Nat} (h : n ≤ 100000000) : n ≤ bigB := by unfold bigB; omega
theorem ape {N : List Cell} {s : Nat} : (([] : List Cell).drop 0).take (0 * s) ++ N = N := by simp
end

section
open Go Go.RowKit Go.IntWalk
open Enc (sz cs)

theorem reps_list {α : Type} [Enc α] {R : List Cell → Prop} {Q : α → Prop} (hR : ∀ l, R l → ∃ x : α, l = cs false [x] ∧ Q x) : ∀ {n : Nat} {l : List Cell}, Reps R n l → ∃ xs : List α, xs.length = n ∧ l = cs false xs ∧ ∀ x ∈ xs, Q x
  | _, _, .nil => ⟨[], rfl, by rw [Enc.nil], fun x hx => by cases hx⟩
  | _, _, .cons (l := l) h1 h2 => by
    obtain ⟨x, rfl, hq⟩ := hR _ h1
    obtain ⟨xs, e1, rfl, h3⟩ := reps_list hR h2
    refine ⟨x :: xs, by simp [e1], (cs_cons x xs).symm, fun y hy => ?_⟩
    rcases List.mem_cons.1 hy with rfl | hy
    · exact hq
    · exact h3 y hy

section
variable {P : Program} {d : Nat} {t e : TypeId} {l : List Cell}
theorem fit_sl {α : Type} [Enc α] {Q : α → Prop} (h : fitN P (d + 1) t l) (hu : P.underlying t = some (.slice e)) (hc : P.cellsOf e = sz α) (hR : ∀ l, fitN P d e l → ∃ x : α, l = cs false [x] ∧ Q x) :
    ∃ xs : List α, l = [slE false xs] ∧ xs.length * P.bytesOf e ≤ reachBytes ∧ ∀ x ∈ xs, Q x := by
  unfold fitN at h
  rw [hu] at h
  obtain ⟨n, l', rfl, h1, h2⟩ := h
  obtain ⟨xs, rfl, rfl, h3⟩ := reps_list hR h2
  exact ⟨xs, by rw [hc], h1, h3⟩
theorem fit_int (h : fitN P (d + 1) t l) (hu : P.underlying t = some (.int .i64)) : ∃ n : Int, l = [i6 n] ∧ (Lit.int .i64 n).wf = true := by
  unfold fitN at h
  rw [hu] at h; exact h
theorem fit_int' (h : fitN P (d + 1) t l) (hu : P.underlying t = some (.int .i64)) : ∃ n : Int, l = cs false [n] ∧ (Lit.int .i64 n).wf = true := fit_int h hu
theorem fit_u8 (h : fitN P (d + 1) t l) (hu : P.underlying t = some (.int .u8)) : ∃ n : UInt8, l = cs false [n] ∧ True := by
  unfold fitN at h
  rw [hu] at h
  obtain ⟨n, rfl, h⟩ := h
  refine ⟨UInt8.ofNat n.toNat, ?_, trivial⟩
  have : 0 ≤ n ∧ n < 256 := by
    have h2 : (decide (IntKind.u8.min ≤ n) && decide (n ≤ IntKind.u8.max)) = true := h
    rw [Bool.and_eq_true, decide_eq_true_eq, decide_eq_true_eq] at h2
    have h3 : IntKind.u8.min = 0 := rfl
    have h4 : IntKind.u8.max = 255 := rfl
    omega
  show _ = [Cell.prim (.int .u8 ((UInt8.ofNat n.toNat).toNat : Int))]
  rw [UInt8.toNat_ofNat', show ((n.toNat % 2 ^ 8 : Nat) : Int) = n by omega]
theorem fit_bool (h : fitN P (d + 1) t l) (hu : P.underlying t = some .bool) : ∃ b : Bool, l = [b1 b] := by
  unfold fitN at h
  rw [hu] at h; exact h
theorem fit_str (h : fitN P (d + 1) t l) (hu : P.underlying t = some .string) : ∃ s : ByteArray, l = [s1 s] ∧ s.size ≤ reachBytes := by
  unfold fitN at h
  rw [hu] at h; exact h
theorem fit_bytes (h : fitN P (d + 2) t l) (hu : P.underlying t = some (.slice e)) (he : P.underlying e = some (.int .u8)) (hc : P.cellsOf e = 1) (hb : P.bytesOf e = 1) : ∃ b : List UInt8, l = [slE false b] ∧ b.length ≤ reachBytes := by
  obtain ⟨xs, h1, h2, _⟩ := fit_sl (α := UInt8) (Q := fun _ => True) h hu hc (fun l hl => fit_u8 hl he)
  exact ⟨xs, h1, by rw [hb] at h2; omega⟩
theorem wf_i64 {n : Int} (h : (Lit.int .i64 n).wf = true) : -9223372036854775808 ≤ n ∧ n ≤ 9223372036854775807 := by
  have h2 : (decide (IntKind.i64.min ≤ n) && decide (n ≤ IntKind.i64.max)) = true := h
  rw [Bool.and_eq_true, decide_eq_true_eq, decide_eq_true_eq] at h2
  have h3 : IntKind.i64.min = -9223372036854775808 := rfl
  have h4 : IntKind.i64.max = 9223372036854775807 := rfl
  omega
theorem len_le {n b : Nat} (h : n * b ≤ reachBytes) (hb : Nat.ble 2 b = true) : n ≤ 100000000000000 := by
  have h2 := Nat.le_of_ble_eq_true hb
  have h3 := Nat.mul_le_mul_left n h2
  unfold reachBytes at h
  omega
end
end

section
open Go Go.RowKit Go.IntWalk
open Enc (sz cs)

/-- A number, read byte by byte: which, and how many bytes it has. -/
def dU (k n : Nat) : Nat → List UInt8 → Nat × Nat × Bool
  | 0, _ => (0, 0, false)
  | _ + 1, [] => (0, 0, false)
  | f + 1, x :: r => if 128 ≤ x.toNat then dU (k + 1) (n + x.toNat % 128 * 2 ^ (7 * k)) f r
    else if (x.toNat = 0 ∧ 0 < k) ∨ 1000000 < n + x.toNat % 128 * 2 ^ (7 * k) then (0, 0, false) else (n + x.toNat % 128 * 2 ^ (7 * k), k + 1, true)

theorem u8_of {x : UInt8} {n : Nat} (h : n = x.toNat) : UInt8.ofNat n = x := by subst h; simp

theorem dU_inv {l : List UInt8} {n c : Nat} (h : dU 0 0 3 l = (n, c, true)) : n ≤ 1000000 ∧ ∃ r, l = uenc n ++ r ∧ c = (uenc n).length := by
  match l with
  | [] => simp [dU] at h
  | x :: l1 =>
    have hx := u8_lt x
    rw [dU] at h
    split at h
    · rename_i hx1
      match l1 with
      | [] => simp [dU] at h
      | y :: l2 =>
        have hy := u8_lt y
        rw [dU] at h
        split at h
        · rename_i hy1
          match l2 with
          | [] => simp [dU] at h
          | z :: l3 =>
            have hz := u8_lt z
            rw [dU] at h
            split at h
            · simp [dU] at h
            · rename_i hz1
              split at h
              · simp at h
              · rename_i hc
                simp only [Prod.mk.injEq, and_true, Nat.reduceMul, Nat.reducePow, Nat.reduceAdd, Nat.mul_zero, Nat.pow_zero, Nat.mul_one, Nat.zero_add] at h hc
                obtain ⟨rfl, rfl⟩ := h
                refine ⟨by omega, l3, ?_⟩
                rw [uenc_big (by omega), uenc_big (by omega), uenc_small (by omega), u8_of (x := x) (by omega), u8_of (x := y) (by omega), u8_of (x := z) (by omega)]
                exact ⟨rfl, rfl⟩
        · rename_i hy1
          split at h
          · simp at h
          · rename_i hc
            simp only [Prod.mk.injEq, and_true, Nat.reducePow, Nat.reduceAdd, Nat.mul_zero, Nat.pow_zero, Nat.mul_one, Nat.zero_add] at h hc
            obtain ⟨rfl, rfl⟩ := h
            refine ⟨by omega, l2, ?_⟩
            rw [uenc_big (by omega), uenc_small (by omega), u8_of (x := x) (by omega), u8_of (x := y) (by omega)]
            exact ⟨rfl, rfl⟩
    · rename_i hx1
      split at h
      · simp at h
      · rename_i hc
        simp only [Prod.mk.injEq, and_true, Nat.mul_zero, Nat.pow_zero, Nat.mul_one, Nat.zero_add] at h hc
        obtain ⟨rfl, rfl⟩ := h
        refine ⟨by omega, l1, ?_⟩
        rw [uenc_small (by omega), u8_of (x := x) (by omega)]
        exact ⟨rfl, rfl⟩

theorem dU_enc {n : Nat} (h : n ≤ 1000000) (r : List UInt8) : dU 0 0 3 (uenc n ++ r) = (n, (uenc n).length, true) := by
  by_cases h1 : n ≤ 127
  · rw [uenc_small h1, List.singleton_append, dU, if_neg (by simp; omega), if_neg (by simp; omega)]
    simp; omega
  · rw [uenc_big h1, List.cons_append, dU, if_pos (by simp; omega)]
    by_cases h2 : n / 128 ≤ 127
    · rw [uenc_small h2, List.singleton_append, dU, if_neg (by simp; omega), if_neg (by simp; omega)]
      simp; omega
    · rw [uenc_big h2, List.cons_append, dU, if_pos (by simp; omega)]
      rw [uenc_small (by omega), List.singleton_append, dU, if_neg (by simp; omega), if_neg (by simp; omega)]
      simp; omega

/-- A number at a place: which, and where it ends. -/
def gU (b : List UInt8) (p : Int) : Nat × Nat × Bool :=
  if 0 ≤ p then match dU 0 0 3 (b.drop p.toNat) with
    | (n, c, true) => (n, p.toNat + c, true)
    | _ => (0, 0, false)
  else (0, 0, false)
/-- A text at a place. -/
def gT (b : List UInt8) (p : Int) : List UInt8 × Nat × Bool :=
  match gU b p with
  | (n, q, true) => if n ≤ b.length - q then ((b.drop q).take n, q + n, true) else ([], 0, false)
  | _ => ([], 0, false)
def gS (b : List UInt8) : List UInt8 × Bool := if 4 ≤ b.length ∧ ptS (b.take (b.length - 4)) = b then (b.take (b.length - 4), true) else ([], false)

theorem gU_bad {b : List UInt8} {p : Int} (h : (gU b p).2.2 = false) : gU b p = (0, 0, false) := by
  by_cases h1 : 0 ≤ p
  · unfold gU at *
    rw [if_pos h1] at *
    revert h
    split
    · intro h; simp at h
    · intro _; rfl
  · unfold gU; rw [if_neg h1]
theorem gU_ok {b : List UInt8} {p : Int} (h : (gU b p).2.2 = true) : 0 ≤ p ∧ (gU b p).1 ≤ 1000000 ∧ ∃ r, b.drop p.toNat = uenc (gU b p).1 ++ r ∧ (gU b p).2.1 = p.toNat + (uenc (gU b p).1).length := by
  unfold gU at *
  split at h
  · rename_i h1
    split at h
    · rename_i n c e
      obtain ⟨h2, r, h3, h4⟩ := dU_inv e
      simp only [if_pos h1]
      exact ⟨h1, h2, r, h3, by omega⟩
    · simp at h
  · simp at h
theorem gU_le {b : List UInt8} {p : Int} (h : (gU b p).2.2 = true) : (gU b p).2.1 ≤ b.length ∧ p.toNat < (gU b p).2.1 := by
  obtain ⟨h1, h2, r, h3, h4⟩ := gU_ok h
  have h5 := congrArg List.length h3
  have := uenc_pos (gU b p).1
  simp at h5
  omega
theorem gU_small (b : List UInt8) (p : Int) : (gU b p).1 ≤ 1000000 ∧ (gU b p).2.1 ≤ b.length := by
  cases h : (gU b p).2.2 with
  | true => exact ⟨(gU_ok h).2.1, (gU_le h).1⟩
  | false => rw [gU_bad h]; simp
theorem gU_enc {a r : List UInt8} {n : Nat} (h : n ≤ 1000000) {p : Int} (hp : p = a.length) : gU (a ++ uenc n ++ r) p = (n, a.length + (uenc n).length, true) := by
  subst hp
  unfold gU
  rw [if_pos (by omega), Int.toNat_natCast, List.append_assoc, List.drop_left, dU_enc h]
theorem gT_bad {b : List UInt8} {p : Int} (h : (gT b p).2.2 = false) : gT b p = ([], 0, false) := by
  unfold gT at *
  split at h
  · rename_i n q e
    split at h
    · simp at h
    · rename_i h1; simp only [if_neg h1]
  · rfl
theorem gT_ok {b : List UInt8} {p : Int} (h : (gT b p).2.2 = true) : (gU b p).2.2 = true ∧ (gU b p).1 ≤ b.length - (gU b p).2.1 ∧ gT b p = ((b.drop (gU b p).2.1).take (gU b p).1, (gU b p).2.1 + (gU b p).1, true) := by
  unfold gT at *
  split at h
  · rename_i n q e
    rw [e]
    split at h
    · rename_i h1; exact ⟨rfl, h1, by simp only [if_pos h1]⟩
    · simp at h
  · simp at h
theorem gS_bad {b : List UInt8} (h : (gS b).2 = false) : gS b = ([], false) := by
  unfold gS at *
  split at h
  · simp at h
  · rename_i h1; rw [if_neg h1]
theorem gS_ok {b : List UInt8} (h : (gS b).2 = true) : 4 ≤ b.length ∧ gS b = (b.take (b.length - 4), true) ∧ ptS (gS b).1 = b := by
  unfold gS at *
  split at h
  · rename_i h1; rw [if_pos h1]; exact ⟨h1.1, rfl, h1.2⟩
  · simp at h

/-- The last four bytes as a number. -/
def rd4 (l : List UInt8) : Nat := l.foldl (fun a x => a * 256 + x.toNat) 0
theorem be4_len (n : Nat) : (be4 n).length = 4 := rfl
theorem ptS_len (b : List UInt8) : (ptS b).length = b.length + 4 := by simp [ptS, be4_len]
theorem ptS_inj {a b : List UInt8} (h : ptS a = ptS b) : a = b := by
  have h1 := congrArg List.length h
  rw [ptS_len, ptS_len] at h1
  have h2 := congrArg (List.take a.length) h
  unfold ptS at h2
  rw [List.take_left' rfl, List.take_left' (by omega)] at h2
  exact h2
theorem rd4_be4 {n : Nat} (h : n < 4294967296) : rd4 (be4 n) = n := by
  simp [rd4, be4]; omega
theorem be4_rd4 : ∀ {l : List UInt8}, l.length = 4 → be4 (rd4 l) = l ∧ rd4 l < 4294967296
  | [a, b, c, d], _ => by
    have := u8_lt a; have := u8_lt b; have := u8_lt c; have := u8_lt d
    have e : rd4 [a, b, c, d] = ((a.toNat * 256 + b.toNat) * 256 + c.toNat) * 256 + d.toNat := by simp [rd4]
    refine ⟨?_, by omega⟩
    unfold be4
    rw [e]
    have e4 : UInt8.ofNat (((a.toNat * 256 + b.toNat) * 256 + c.toNat) * 256 + d.toNat) = d := by
      apply UInt8.toNat_inj.1
      rw [UInt8.toNat_ofNat']; omega
    have e3 : UInt8.ofNat ((((a.toNat * 256 + b.toNat) * 256 + c.toNat) * 256 + d.toNat) / 256) = c := by
      apply UInt8.toNat_inj.1
      rw [UInt8.toNat_ofNat']; omega
    have e2 : UInt8.ofNat ((((a.toNat * 256 + b.toNat) * 256 + c.toNat) * 256 + d.toNat) / 65536) = b := by
      apply UInt8.toNat_inj.1
      rw [UInt8.toNat_ofNat']; omega
    rw [e4, e3, e2, u8_of (x := a) (by omega)]
/-- The sum is right: as the two say it. -/
theorem gS_iff {b : List UInt8} (h : 4 ≤ b.length) : ptS (b.take (b.length - 4)) = b ↔ rd4 (b.drop (b.length - 4)) = crcN (b.take (b.length - 4)) := by
  obtain ⟨e1, e2⟩ := be4_rd4 (l := b.drop (b.length - 4)) (by simp; omega)
  constructor
  · intro h1
    have h2 : b.drop (b.length - 4) = be4 (crcN (b.take (b.length - 4))) := by
      conv => lhs; rw [← h1]
      unfold ptS
      rw [List.drop_left' (by simp [be4_len])]
    rw [h2, rd4_be4 (crcN_lt _)]
  · intro h1
    unfold ptS
    rw [← h1, e1, List.take_append_drop]
end

section
open Go Go.RowKit Go.IntWalk
open Enc (sz cs)

theorem cs_drop0 {α : Type} [Enc α] {o : Bool} {xs : List α} {a n : Nat} (h : a + n ≤ xs.length) : ((cs o xs).drop (a * sz α)).take (n * sz α) = cs o ((xs.drop a).take n) := by
  have e : xs = xs.take a ++ ((xs.drop a).take n ++ (xs.drop a).drop n) := by rw [List.take_append_drop, List.take_append_drop]
  conv => lhs; rw [e, Enc.app, Enc.app]
  rw [List.drop_left' (by rw [cs_len, List.length_take, Nat.min_eq_left (by omega)]), List.take_left' (by rw [cs_len, List.length_take, List.length_drop, Nat.min_eq_left (by omega)])]
theorem sl_ro {α : Type} [Enc α] {xs : List α} {a n m s : Nat} (h : a + n ≤ xs.length) (hm : xs.length = m := by first | rfl | simp) (hs : sz α = s := by rfl) : sliceT (.sl false m s (cs false xs)) s a (a + n) = some (.sl false ((xs.drop a).take n).length s (cs false ((xs.drop a).take n))) := by
  subst hm hs
  have := cs_drop0 (o := false) h
  simp only [sliceT]
  rw [if_pos (Nat.le_add_right a n), if_pos ⟨h, trivial⟩, show a + n - a = n by omega, this, List.length_take, List.length_drop, Nat.min_eq_left (by omega)]
theorem sl_to {α : Type} [Enc α] {xs : List α} {n m s : Nat} (h : n ≤ xs.length) (hm : xs.length = m := by first | rfl | simp) (hs : sz α = s := by rfl) : sliceT (.sl false m s (cs false xs)) s 0 n = some (.sl false (xs.take n).length s (cs false (xs.take n))) := by
  have := sl_ro (a := 0) (n := n) (by omega) hm hs
  simpa using this
theorem sl_from {α : Type} [Enc α] {xs : List α} {a m s : Nat} (h : a ≤ xs.length) (hm : xs.length = m := by first | rfl | simp) (hs : sz α = s := by rfl) : sliceT (.sl false m s (cs false xs)) s a m = some (.sl false (xs.drop a).length s (cs false (xs.drop a))) := by
  have := sl_ro (a := a) (n := m - a) (by omega) hm hs
  rw [show a + (m - a) = m by omega] at this
  rw [this, List.take_of_length_le (by simp; omega)]
theorem bndN {d n : Nat} {k : IntKind} : boundT d (some (.v false [.prim (.int k (n : Int))])) = some n := by
  simp only [boundT]; rw [if_pos (by omega)]; simp
theorem strOf_ro {b : List UInt8} : strOf (cs false b) = some b := strOf_cs

theorem byteC_sb (x : List UInt8) : byteC (sb x).data.toList = cs false x := by simp; rfl
theorem srcO {α : Type} [Enc α] {nd : Nat → Option Node} {id n s : Nat} {o : Bool} {xs : List α} (hnd : nd id = some (o, cs true xs)) (hf : cs true xs = cs false xs) (hn : xs.length = n := by first | rfl | simp) (hs : sz α = s := by rfl) :
    srcT nd s (.v false [.ref id 0 n s]) = some (n, cs true xs) := by
  subst hn hs
  have h2 : (((cs true xs).drop 0).take (xs.length * sz α)).all (fun c => !c.own?) = true := by
    rw [cs_whole, hf]; exact cs_now xs
  simp only [srcT, hnd]
  rw [if_pos ⟨trivial, by rw [cs_len]; omega, h2⟩, cs_whole]
theorem gT_no {b : List UInt8} {p : Int} (h : ¬ ((gU b p).2.2 = true ∧ (gU b p).1 ≤ b.length - (gU b p).2.1)) : gT b p = ([], 0, false) := by
  cases e : (gT b p).2.2 with
  | false => exact gT_bad e
  | true => obtain ⟨h1, h2, _⟩ := gT_ok e; exact (h ⟨h1, h2⟩).elim
theorem gT_yes {b : List UInt8} {p : Int} (h1 : (gU b p).2.2 = true) (h2 : (gU b p).1 ≤ b.length - (gU b p).2.1) : gT b p = ((b.drop (gU b p).2.1).take (gU b p).1, (gU b p).2.1 + (gU b p).1, true) := by
  unfold gT
  generalize gU b p = r at *
  obtain ⟨n, q, o⟩ := r
  dsimp only at h1 h2 ⊢
  subst h1
  simp only [if_pos h2]
theorem gS_no {b : List UInt8} (h : ¬ (4 ≤ b.length ∧ ptS (b.take (b.length - 4)) = b)) : gS b = ([], false) := by unfold gS; rw [if_neg h]
theorem gS_yes {b : List UInt8} (h1 : 4 ≤ b.length) (h2 : ptS (b.take (b.length - 4)) = b) : gS b = (b.take (b.length - 4), true) := by unfold gS; rw [if_pos ⟨h1, h2⟩]
theorem bl_eq {a b : List UInt8} (h : (sb a).toList = (sb b).toList) : a = b := by
  have e : ∀ x : List UInt8, (sb x).toList = x := fun x => by
    rw [ByteArray.toList_eq]
  rw [e, e] at h; exact h
theorem bct {b : Bool} (h : b = false) (h2 : b = true) : False := by subst h; cases h2
def inB (n l h : Int) : Bool := decide (l ≤ n) && decide (n ≤ h)
theorem inB_iff {n l h : Int} : inB n l h = true ↔ l ≤ n ∧ n ≤ h := by simp [inB]
def metaOk (m : Met) : Bool := inB m.gen 0 1000000 && (decide (m.root = 0) || inB m.root 2 47)
def ptP (k : Int) (b : List UInt8) : List UInt8 := if inB k 1 2 = true ∧ b.length ≤ 240 then ptS (ptT (ptU [] k) b) else []
theorem ptP_yes {k : Int} {b : List UInt8} (h : inB k 1 2 = true) (hb : b.length ≤ 240) : ptP k b = ptS (ptT (ptU [] k) b) := if_pos ⟨h, hb⟩
theorem ptP_no {k : Int} {b : List UInt8} (h : inB k 1 2 = false) : ptP k b = [] := if_neg (by rw [h]; simp)
theorem ptP_no2 {k : Int} {b : List UInt8} (h : 240 < b.length) : ptP k b = [] := if_neg (by omega)
def ptM (m : Met) : List UInt8 := if metaOk m = true then ptP 2 (ptU (ptU [] m.gen) m.root) else []
theorem ptP_len (k : Int) (b : List UInt8) : (ptP k b).length ≤ 260 := by
  unfold ptP
  split
  · rename_i h
    have h1 := uenc_len (clN_le k)
    have h2 := uenc_len (clN_le b.length)
    simp [ptS, be4]; omega
  · simp
theorem ptM_len (m : Met) : (ptM m).length ≤ 260 := by
  unfold ptM
  split
  · exact ptP_len _ _
  · simp

theorem ptP_ne {k : Int} {s b : List UInt8} (h : ptP k s = b) (hb : b ≠ []) : inB k 1 2 = true ∧ s.length ≤ 240 ∧ ptS (ptT (ptU [] k) s) = b := by
  unfold ptP at h
  split at h
  · rename_i h1; exact ⟨h1.1, h1.2, h⟩
  · exact absurd h.symm hb

/-- A page: its kind, its body. -/
def gP (b : List UInt8) : Nat × List UInt8 × Bool :=
  if (gS b).2 = true ∧ (gU (gS b).1 0).2.2 = true ∧ (gT (gS b).1 (gU (gS b).1 0).2.1).2.2 = true ∧ 1 ≤ (gU (gS b).1 0).1 ∧ ptP (gU (gS b).1 0).1 (gT (gS b).1 (gU (gS b).1 0).2.1).1 = b then
    ((gU (gS b).1 0).1, (gT (gS b).1 (gU (gS b).1 0).2.1).1, true) else (0, [], false)

/-- The two ways to look a page over say the same. -/
theorem gP_iff {b : List UInt8} (h1 : (gS b).2 = true) (h2 : (gU (gS b).1 0).2.2 = true) (h3 : (gT (gS b).1 (gU (gS b).1 0).2.1).2.2 = true) :
    ((gT (gS b).1 (gU (gS b).1 0).2.1).2.1 = (gS b).1.length ∧ inB (gU (gS b).1 0).1 1 2 = true ∧ (gT (gS b).1 (gU (gS b).1 0).2.1).1.length ≤ 240) ↔ (1 ≤ (gU (gS b).1 0).1 ∧ ptP (gU (gS b).1 0).1 (gT (gS b).1 (gU (gS b).1 0).2.1).1 = b) := by
  obtain ⟨hl, _, hb⟩ := gS_ok h1
  generalize (gS b).1 = x at *
  obtain ⟨_, hk, r, e1, e2⟩ := gU_ok h2
  obtain ⟨k1, k2, k3⟩ := gT_ok h3
  obtain ⟨_, hn, r2, f1, f2⟩ := gU_ok k1
  rw [k3]
  generalize gU x 0 = g at *
  generalize gU x g.2.1 = q at *
  simp only [Int.toNat_natCast] at f1 f2
  have hne : b ≠ [] := fun e => by rw [e] at hl; simp at hl
  have e1' : x = uenc g.1 ++ r := by simpa using e1
  have e2' : g.2.1 = (uenc g.1).length := by simpa using e2
  have hd : x.drop g.2.1 = r := by rw [e2', e1', List.drop_left]
  have hr : r = uenc q.1 ++ r2 := hd.symm.trans f1
  have hx0 : x = uenc g.1 ++ uenc q.1 ++ r2 := by rw [List.append_assoc, ← hr, ← e1']
  have hql0 : q.2.1 = (uenc g.1 ++ uenc q.1).length := by rw [f2, e2']; simp
  have hs : x.drop q.2.1 = r2 := by rw [hql0, hx0, List.drop_left]
  have hql : q.2.1 ≤ x.length := by rw [hql0, hx0]; simp
  have hlen : ((x.drop q.2.1).take q.1).length = q.1 := by simp; omega
  have hx : x = uenc g.1 ++ uenc q.1 ++ x.drop q.2.1 := by rw [hs]; exact hx0
  constructor
  · rintro ⟨g1, g2, g3⟩
    have g1' : q.2.1 + q.1 = x.length := g1
    have g3' : ((x.drop q.2.1).take q.1).length ≤ 240 := g3
    have ht : (x.drop q.2.1).take q.1 = x.drop q.2.1 := List.take_of_length_le (by simp; omega)
    refine ⟨by have := inB_iff.1 g2; omega, ?_⟩
    show ptP g.1 ((x.drop q.2.1).take q.1) = b
    rw [ptP_yes g2 g3', ← hb]
    congr 1
    unfold ptT ptU
    rw [hlen, clN_nat hk, clN_nat hn, List.nil_append, ht, ← hx]
  · rintro ⟨g1, g2⟩
    obtain ⟨p1, p2, p3⟩ := ptP_ne g2 hne
    rw [← hb] at p3
    have p4 := ptS_inj p3
    refine ⟨?_, p1, p2⟩
    show q.2.1 + q.1 = x.length
    have p5 := congrArg List.length p4
    unfold ptT ptU at p5
    simp only [hlen, clN_nat hk, clN_nat hn, List.nil_append, List.length_append] at p5
    have : q.2.1 = (uenc g.1).length + (uenc q.1).length := by rw [f2, e2']
    omega

theorem gP_no {b : List UInt8} (h : ¬ ((gS b).2 = true ∧ (gU (gS b).1 0).2.2 = true ∧ (gT (gS b).1 (gU (gS b).1 0).2.1).2.2 = true ∧ 1 ≤ (gU (gS b).1 0).1 ∧ ptP (gU (gS b).1 0).1 (gT (gS b).1 (gU (gS b).1 0).2.1).1 = b)) : gP b = (0, [], false) := by
  unfold gP; rw [if_neg h]
theorem gP_yes {b : List UInt8} (h1 : (gS b).2 = true) (h2 : (gU (gS b).1 0).2.2 = true) (h3 : (gT (gS b).1 (gU (gS b).1 0).2.1).2.2 = true) (h4 : 1 ≤ (gU (gS b).1 0).1) (h5 : ptP (gU (gS b).1 0).1 (gT (gS b).1 (gU (gS b).1 0).2.1).1 = b) :
    gP b = ((gU (gS b).1 0).1, (gT (gS b).1 (gU (gS b).1 0).2.1).1, true) := by
  unfold gP; rw [if_pos ⟨h1, h2, h3, h4, h5⟩]
theorem gS_len {b : List UInt8} : (gS b).1.length ≤ b.length := by
  unfold gS; split
  · simp
  · simp
theorem gT_len {b : List UInt8} {p : Int} : (gT b p).1.length ≤ b.length := by
  unfold gT; split
  · split
    · simp; omega
    · simp
  · simp
theorem gP_bad {b : List UInt8} (h : (gP b).2.2 = false) : gP b = (0, [], false) := by
  unfold gP at *
  split at h
  · simp at h
  · rename_i h1; rw [if_neg h1]
theorem gP_ok {b : List UInt8} (h : (gP b).2.2 = true) : 4 ≤ b.length ∧ inB (gP b).1 1 2 = true ∧ (gP b).2.1.length ≤ 240 ∧ ptP (gP b).1 (gP b).2.1 = b := by
  unfold gP at *
  split at h
  · rename_i h1
    rw [if_pos h1]
    obtain ⟨a1, a2, a3, a4, a5⟩ := h1
    have := (gP_iff a1 a2 a3).2 ⟨a4, a5⟩
    exact ⟨(gS_ok a1).1, this.2.1, this.2.2, a5⟩
  · simp at h

/-- A root. -/
def gM (b : List UInt8) : Met × Bool :=
  if (gP b).2.2 = true ∧ (gU (gP b).2.1 0).2.2 = true ∧ (gU (gP b).2.1 (gU (gP b).2.1 0).2.1).2.2 = true ∧ ptM ⟨(gU (gP b).2.1 0).1, (gU (gP b).2.1 (gU (gP b).2.1 0).2.1).1⟩ = b then
    (⟨(gU (gP b).2.1 0).1, (gU (gP b).2.1 (gU (gP b).2.1 0).2.1).1⟩, true) else (⟨0, 0⟩, false)

theorem ptM_ne {m : Met} {b : List UInt8} (h : ptM m = b) (hb : b ≠ []) : metaOk m = true ∧ ptP 2 (ptU (ptU [] m.gen) m.root) = b := by
  unfold ptM at h
  split at h
  · rename_i h1; exact ⟨h1, h⟩
  · exact absurd h.symm hb

theorem uenc_inj {n m : Nat} {r r' : List UInt8} (hn : n ≤ 1000000) (hm : m ≤ 1000000) (h : uenc n ++ r = uenc m ++ r') : n = m ∧ r = r' := by
  have h1 := dU_enc hn r
  rw [h, dU_enc hm r'] at h1
  have h2 : m = n := congrArg Prod.fst h1
  subst h2
  exact ⟨rfl, List.append_cancel_left h⟩

theorem ptP_inj {k k' : Int} {s s' b : List UInt8} (h : ptP k s = b) (h' : ptP k' s' = b) (hb : b ≠ []) : k = k' ∧ s = s' := by
  obtain ⟨a1, a2, a3⟩ := ptP_ne h hb
  obtain ⟨b1, b2, b3⟩ := ptP_ne h' hb
  have e := ptS_inj (a3.trans b3.symm)
  unfold ptT ptU at e
  rw [List.nil_append, List.nil_append, List.append_assoc, List.append_assoc] at e
  obtain ⟨e1, e2⟩ := uenc_inj (clN_le _) (clN_le _) e
  rw [clN_nat (by omega), clN_nat (by omega)] at e2
  obtain ⟨e3, e4⟩ := uenc_inj (by omega) (by omega) e2
  have a4 := inB_iff.1 a1
  have b4 := inB_iff.1 b1
  have c1 := clN_int (n := k) (by omega)
  have c2 := clN_int (n := k') (by omega)
  rw [e1] at c1
  exact ⟨c1.symm.trans c2, e4⟩

theorem gM_iff {b : List UInt8} (h1 : (gP b).2.2 = true) (h2 : (gU (gP b).2.1 0).2.2 = true) (h3 : (gU (gP b).2.1 (gU (gP b).2.1 0).2.1).2.2 = true) :
    (((gP b).1 : Int) = 2 ∧ (gU (gP b).2.1 (gU (gP b).2.1 0).2.1).2.1 = (gP b).2.1.length ∧ metaOk ⟨(gU (gP b).2.1 0).1, (gU (gP b).2.1 (gU (gP b).2.1 0).2.1).1⟩ = true) ↔
    ptM ⟨(gU (gP b).2.1 0).1, (gU (gP b).2.1 (gU (gP b).2.1 0).2.1).1⟩ = b := by
  obtain ⟨hl, hk, hs, hb⟩ := gP_ok h1
  generalize hx : (gP b).2.1 = x at *
  obtain ⟨_, n1, r, e1, e2⟩ := gU_ok h2
  obtain ⟨_, n2, r2, f1, f2⟩ := gU_ok h3
  generalize gU x 0 = u at *
  generalize gU x u.2.1 = q at *
  simp only [Int.toNat_natCast] at f1 f2
  have hne : b ≠ [] := fun e => by rw [e] at hl; simp at hl
  have e1' : x = uenc u.1 ++ r := by simpa using e1
  have e2' : u.2.1 = (uenc u.1).length := by simpa using e2
  have hd : x.drop u.2.1 = r := by rw [e2', e1', List.drop_left]
  have hr : r = uenc q.1 ++ r2 := hd.symm.trans f1
  have hxx : x = uenc u.1 ++ uenc q.1 ++ r2 := by rw [List.append_assoc, ← hr, ← e1']
  have hpt : ptU (ptU [] (u.1 : Nat)) (q.1 : Nat) = uenc u.1 ++ uenc q.1 := by
    unfold ptU; rw [clN_nat n1, clN_nat n2, List.nil_append]
  constructor
  · rintro ⟨g1, g2, g3⟩
    have : r2 = [] := by
      have h5 := congrArg List.length hxx
      simp only [List.length_append] at h5
      exact List.length_eq_zero_iff.1 (by omega)
    subst this
    unfold ptM
    rw [if_pos g3]
    show ptP 2 (ptU (ptU [] (u.1 : Nat)) (q.1 : Nat)) = b
    rw [hpt, ← List.append_nil (uenc _ ++ uenc _), ← hxx, ← g1]; exact hb
  · intro g
    obtain ⟨a1, a2⟩ := ptM_ne g hne
    have a3 : ptP 2 (ptU (ptU [] (u.1 : Nat)) (q.1 : Nat)) = b := a2
    rw [hpt] at a3
    obtain ⟨a4, a5⟩ := ptP_inj hb a3 hne
    refine ⟨a4, ?_, a1⟩
    have h5 := congrArg List.length a5
    simp only [List.length_append] at h5
    omega
theorem gM_no {b : List UInt8} (h : ¬ ((gP b).2.2 = true ∧ (gU (gP b).2.1 0).2.2 = true ∧ (gU (gP b).2.1 (gU (gP b).2.1 0).2.1).2.2 = true ∧ ptM ⟨(gU (gP b).2.1 0).1, (gU (gP b).2.1 (gU (gP b).2.1 0).2.1).1⟩ = b)) : gM b = (⟨0, 0⟩, false) := by
  unfold gM; rw [if_neg h]
theorem gM_yes {b : List UInt8} (h1 : (gP b).2.2 = true) (h2 : (gU (gP b).2.1 0).2.2 = true) (h3 : (gU (gP b).2.1 (gU (gP b).2.1 0).2.1).2.2 = true) (h4 : ptM ⟨(gU (gP b).2.1 0).1, (gU (gP b).2.1 (gU (gP b).2.1 0).2.1).1⟩ = b) :
    gM b = (⟨(gU (gP b).2.1 0).1, (gU (gP b).2.1 (gU (gP b).2.1 0).2.1).1⟩, true) := by
  unfold gM; rw [if_pos ⟨h1, h2, h3, h4⟩]
theorem gP_len {b : List UInt8} : (gP b).2.1.length ≤ 240 := by
  cases h : (gP b).2.2 with
  | true => exact (gP_ok h).2.2.1
  | false => rw [gP_bad h]; simp
theorem gM_bad {b : List UInt8} (h : (gM b).2 = false) : gM b = (⟨0, 0⟩, false) := by
  unfold gM at *
  split at h
  · simp at h
  · rename_i h1; rw [if_neg h1]
end

section
open Go Go.RowKit Go.IntWalk
open Enc (sz cs)

/-! ### Sectors -/
/-- What was written last to a sector. -/
def lastW (n : Int) (l : List Wri) : Option (List UInt8) := l.foldl (fun a w => if w.n = n then some w.b else a) none
theorem lastW_take {n : Int} {l : List Wri} {i : Nat} (h : i < l.length) : lastW n (l.take (i + 1)) = if l[i].n = n then some l[i].b else lastW n (l.take i) := by
  unfold lastW
  rw [take_one h, List.foldl_append]; rfl
theorem lastW_snoc {n : Int} {l : List Wri} {w : Wri} : lastW n (l ++ [w]) = if w.n = n then some w.b else lastW n l := by
  unfold lastW
  rw [List.foldl_append]; rfl
theorem lastW_mem {n : Int} {l : List Wri} {b : List UInt8} (h : lastW n l = some b) : ∃ w ∈ l, w.b = b ∧ w.n = n := by
  have key : ∀ (l : List Wri) (a : Option (List UInt8)), l.foldl (fun a w => if w.n = n then some w.b else a) a = some b → a = some b ∨ ∃ w ∈ l, w.b = b ∧ w.n = n := by
    intro l
    induction l with
    | nil => intro a h; exact .inl h
    | cons w l ih =>
      intro a h
      rcases ih _ h with h | ⟨v, hv, h2⟩
      · dsimp only at h
        by_cases e : w.n = n
        · rw [if_pos e] at h; exact .inr ⟨w, by simp, Option.some.inj h, e⟩
        · rw [if_neg e] at h; exact .inl h
      · exact .inr ⟨v, by simp [hv], h2⟩
  rcases key l none h with h | h
  · cases h
  · exact h
/-- What a sector reads. -/
def rdS (d : Dsk) (n : Int) : List UInt8 × Bool :=
  if 0 ≤ n ∧ n < d.secs.length then ((lastW n d.cache).getD (d.secs.getD n.toNat []), true) else ([], false)
theorem rdS_out {d : Dsk} {n : Int} (h : ¬ (0 ≤ n ∧ n < d.secs.length)) : rdS d n = ([], false) := if_neg h
theorem rdS_in {d : Dsk} {n : Int} (h : 0 ≤ n ∧ n < d.secs.length) : rdS d n = ((lastW n d.cache).getD (d.secs.getD n.toNat []), true) := if_pos h
theorem cnt_getD {α : Type} {c : α → Nat} {xs : List α} {i : Nat} {x : α} (h : xs[i]? = some x) : c x ≤ cnt c xs := cnt_mem (List.mem_of_getElem? h)
theorem rdS_len {d : Dsk} {n : Int} : (rdS d n).1.length ≤ zD d := by
  unfold rdS zD zBS zWS
  split
  · cases h : lastW n d.cache with
    | some b =>
      obtain ⟨w, hw, rfl, _⟩ := lastW_mem h
      have := cnt_mem (c := fun w : Wri => w.b.length) hw
      simp only [Option.getD_some]; omega
    | none =>
      simp only [Option.getD_none]
      cases h2 : d.secs[n.toNat]? with
      | none => rw [List.getD_eq_getElem?_getD, h2]; simp
      | some x =>
        rw [List.getD_eq_getElem?_getD, h2]
        have := cnt_getD (c := List.length) h2
        simp only [Option.getD_some]; omega
  · simp
/-- A disk is right. -/
structure DskOk (d : Dsk) : Prop where
  secs : 4 ≤ d.secs.length ∧ d.secs.length ≤ 48
  cache : d.cache.length ≤ 60
  ops : 0 ≤ d.ops ∧ d.ops ≤ 100000
  faults : d.faults.length ≤ 20
  down : d.down = true → d.cache = []
  sec : ∀ i (h : i < d.secs.length), d.secs[i].length ≤ 256
  wri : ∀ i (h : i < d.cache.length), 0 ≤ d.cache[i].n ∧ d.cache[i].n ≤ (d.secs.length : Int) - 1 ∧ d.cache[i].b.length ≤ 256
  fau : ∀ i (h : i < d.faults.length), 0 ≤ d.faults[i].pos ∧ d.faults[i].pos ≤ 100000 ∧ 0 ≤ d.faults[i].keep ∧ d.faults[i].keep ≤ 1048575 ∧ 0 ≤ d.faults[i].cut ∧ d.faults[i].cut ≤ 256 ∧ (0 < i → d.faults[i - 1].pos < d.faults[i].pos)
open Classical in
noncomputable def dskOk (d : Dsk) : Bool := decide (DskOk d)
theorem dskOk_iff {d : Dsk} : dskOk d = true ↔ DskOk d := by unfold dskOk; simp
theorem dskOk_no {d : Dsk} (h : ¬ DskOk d) : dskOk d = false := by unfold dskOk; simp [h]
theorem dskOk_yes {d : Dsk} (h : DskOk d) : dskOk d = true := dskOk_iff.2 h
/-- The body of a page of a kind. -/
def pgA (d : Dsk) (n k : Int) : List UInt8 × Bool :=
  if (rdS d n).2 = true ∧ (gP (rdS d n).1).2.2 = true ∧ ((gP (rdS d n).1).1 : Int) = k then ((gP (rdS d n).1).2.1, true) else ([], false)
theorem pgA_yes {d : Dsk} {n k : Int} (h1 : (rdS d n).2 = true) (h2 : (gP (rdS d n).1).2.2 = true) (h3 : ((gP (rdS d n).1).1 : Int) = k) : pgA d n k = ((gP (rdS d n).1).2.1, true) := if_pos ⟨h1, h2, h3⟩
theorem pgA_no {d : Dsk} {n k : Int} (h : ¬ ((rdS d n).2 = true ∧ (gP (rdS d n).1).2.2 = true ∧ ((gP (rdS d n).1).1 : Int) = k)) : pgA d n k = ([], false) := if_neg h
theorem pgA_len {d : Dsk} {n k : Int} : (pgA d n k).1.length ≤ 240 := by
  unfold pgA
  split
  · exact gP_len
  · simp

/-! ### Nodes as bytes -/
abbrev ptX (s : ByteArray) : List UInt8 := uenc (clN (bl s).length) ++ bl s
abbrev ptI (n : Int) : List UInt8 := uenc (clN n)
def fm {α : Type} (f : α → List UInt8) (l : List α) : List UInt8 := l.flatMap f
theorem fm_nil {α : Type} {f : α → List UInt8} : fm f [] = [] := rfl
theorem fm_take {α : Type} {f : α → List UInt8} {l : List α} {i : Nat} (h : i < l.length) : fm f (l.take (i + 1)) = fm f (l.take i) ++ f l[i] := by
  unfold fm; rw [take_one h, List.flatMap_append]; simp
theorem fm_app {α : Type} {f : α → List UInt8} {a b : List α} : fm f (a ++ b) = fm f a ++ fm f b := List.flatMap_append
theorem fm_cons {α : Type} {f : α → List UInt8} {a : α} {b : List α} : fm f (a :: b) = f a ++ fm f b := List.flatMap_cons
theorem fm_snoc {α : Type} {f : α → List UInt8} {a : List α} {x : α} : fm f (a ++ [x]) = fm f a ++ f x := by rw [fm_app, fm_cons, fm_nil, List.append_nil]
theorem ptX_len {s : ByteArray} : (ptX s).length ≤ 3 + s.size := by
  have := uenc_len (clN_le (bl s).length)
  have h2 := bl_len s
  simp only [ptX, List.length_append]; omega
theorem ptX_len2 {s : ByteArray} : s.size < (ptX s).length := by
  have := uenc_pos (clN (bl s).length)
  have h2 := bl_len s
  simp only [ptX, List.length_append]; omega
theorem fmX_len : ∀ {l : List ByteArray}, (fm ptX l).length ≤ 3 * l.length + cnt ByteArray.size l
  | [] => by simp [fm_nil]
  | x :: l => by
    have h1 := ptX_len (s := x)
    have h2 := fmX_len (l := l)
    rw [fm_cons, List.length_append, List.length_cons]; simp only [cnt]; omega
theorem fmX_len2 : ∀ {l : List ByteArray}, l.length + cnt ByteArray.size l ≤ (fm ptX l).length
  | [] => by simp [cnt]
  | x :: l => by
    have h1 := ptX_len2 (s := x)
    have h2 := fmX_len2 (l := l)
    rw [fm_cons, List.length_append, List.length_cons]; simp only [cnt]; omega
theorem fmI_len : ∀ {l : List Int}, (fm ptI l).length ≤ 3 * l.length
  | [] => by simp [fm_nil]
  | x :: l => by
    have h1 := uenc_len (clN_le x)
    have h2 := fmI_len (l := l)
    rw [fm_cons, List.length_append, List.length_cons]; simp only [ptI]; omega
theorem fmI_len2 : ∀ {l : List Int}, l.length ≤ (fm ptI l).length
  | [] => by simp
  | x :: l => by
    have h1 := uenc_pos (clN x)
    have h2 := fmI_len2 (l := l)
    rw [fm_cons, List.length_append, List.length_cons]; simp only [ptI]; omega
/-- What stands ahead of a node's keys. -/
abbrev hdN (leaf : Bool) (n : Int) : List UInt8 := [if leaf then 1 else 0] ++ uenc (clN n)
/-- A node as bytes, right or not. -/
def bdN (x : Nod) : List UInt8 := hdN x.leaf x.keys.length ++ fm ptX x.keys ++ (if x.leaf then fm ptX x.vals else fm ptI x.kids)
/-- The room that a node takes, more or less. -/
theorem bdN_len {x : Nod} : (bdN x).length ≤ 4 + 3 * zN x := by
  have h1 := fmX_len (l := x.keys)
  have h2 := fmX_len (l := x.vals)
  have h3 := fmI_len (l := x.kids)
  have h4 := uenc_len (clN_le x.keys.length)
  unfold bdN hdN zN zSS
  split <;> simp only [List.length_append, List.length_cons, List.length_nil] <;> omega
/-- A node is right. -/
structure NodOk (x : Nod) : Prop where
  key : ∀ i (h : i < x.keys.length), x.keys[i].size ≤ 48 ∧ (0 < i → Op.bytesLess x.keys[i - 1].toList x.keys[i].toList = true)
  size : (bdN x).length ≤ 240
  val : x.leaf = true → ∀ i (h : i < x.vals.length), x.vals[i].size ≤ 60
  leaf : x.leaf = true → 1 ≤ x.keys.length ∧ x.vals.length = x.keys.length ∧ x.kids = []
  kid : x.leaf = false → ∀ i (h : i < x.kids.length), 2 ≤ x.kids[i] ∧ x.kids[i] ≤ 47
  inner : x.leaf = false → 1 ≤ x.kids.length ∧ x.keys.length + 1 = x.kids.length ∧ x.vals = []
open Classical in
noncomputable def nodOk (x : Nod) : Bool := decide (NodOk x)
theorem nodOk_iff {x : Nod} : nodOk x = true ↔ NodOk x := by unfold nodOk; simp
theorem nodOk_no {x : Nod} (h : ¬ NodOk x) : nodOk x = false := by unfold nodOk; simp [h]
theorem nodOk_yes {x : Nod} (h : NodOk x) : nodOk x = true := nodOk_iff.2 h
theorem NodOk.small {x : Nod} (h : NodOk x) : zN x ≤ 240 := by
  have h1 := h.size
  have h2 := fmX_len2 (l := x.keys)
  have h3 := fmX_len2 (l := x.vals)
  have h4 := fmI_len2 (l := x.kids)
  have h5 := uenc_pos (clN x.keys.length)
  unfold bdN hdN at h1
  unfold zN zSS
  cases hl : x.leaf with
  | true =>
    obtain ⟨_, _, e⟩ := h.leaf hl
    rw [hl] at h1
    simp only [List.length_append, List.length_cons, List.length_nil, if_true] at h1
    rw [e] at h4 ⊢; simp at h4 ⊢; omega
  | false =>
    obtain ⟨_, _, e⟩ := h.inner hl
    rw [hl] at h1
    simp only [List.length_append, List.length_cons, List.length_nil] at h1
    rw [e] at h3 ⊢; simp [cnt] at h1 h3 ⊢; omega

/-! ### Bytes that begin alike -/
theorem uenc_pre {a b : Nat} (ha : a ≤ 1000000) (hb : b ≤ 1000000) {r s : List UInt8} (h : uenc a ++ r = uenc b ++ s) : a = b ∧ r = s := uenc_inj ha hb h
theorem ptX_pre {x y : ByteArray} (hx : x.size ≤ 1000000) (hy : y.size ≤ 1000000) {r s : List UInt8} (h : ptX x ++ r = ptX y ++ s) : x = y ∧ r = s := by
  have ex := bl_len x
  have ey := bl_len y
  simp only [ptX, List.append_assoc] at h
  obtain ⟨h1, h2⟩ := uenc_pre (clN_le _) (clN_le _) h
  rw [clN_nat (by omega), clN_nat (by omega)] at h1
  obtain ⟨h3, h4⟩ := List.append_inj h2 h1
  refine ⟨?_, h4⟩
  apply ByteArray.ext
  exact Array.toList_inj.1 h3
theorem ptI_pre {x y : Int} (hx : 0 ≤ x ∧ x ≤ 1000000) (hy : 0 ≤ y ∧ y ≤ 1000000) {r s : List UInt8} (h : ptI x ++ r = ptI y ++ s) : x = y ∧ r = s := by
  obtain ⟨h1, h2⟩ := uenc_pre (clN_le _) (clN_le _) h
  have e1 := clN_int hx
  have e2 := clN_int hy
  exact ⟨by rw [← e1, ← e2, h1], h2⟩
theorem fm_pre {α : Type} {f : α → List UInt8} {Q : α → Prop} (hf : ∀ x y r s, Q x → Q y → f x ++ r = f y ++ s → x = y ∧ r = s) : ∀ {a b : List α} {r s : List UInt8}, (∀ x ∈ a, Q x) → (∀ x ∈ b, Q x) → a.length ≤ b.length → fm f a ++ r = fm f b ++ s → a = b.take a.length ∧ r = fm f (b.drop a.length) ++ s
  | [], b, r, s, _, _, _, h => ⟨by simp, by simpa [fm_nil] using h⟩
  | x :: a, [], r, s, _, _, hl, h => by simp at hl
  | x :: a, y :: b, r, s, ha, hb, hl, h => by
    rw [fm_cons, fm_cons, List.append_assoc, List.append_assoc] at h
    obtain ⟨rfl, h2⟩ := hf x y _ _ (ha x (by simp)) (hb y (by simp)) h
    obtain ⟨h3, h4⟩ := fm_pre hf (fun x hx => ha x (by simp [hx])) (fun x hx => hb x (by simp [hx])) (by simpa using hl) h2
    exact ⟨by rw [List.length_cons, List.take_succ_cons, ← h3], by simpa using h4⟩
theorem fmX_pre {a b : List ByteArray} {r s : List UInt8} (ha : ∀ x ∈ a, x.size ≤ 1000000) (hb : ∀ x ∈ b, x.size ≤ 1000000) (hl : a.length ≤ b.length) (h : fm ptX a ++ r = fm ptX b ++ s) : a = b.take a.length ∧ r = fm ptX (b.drop a.length) ++ s :=
  fm_pre (Q := fun x => x.size ≤ 1000000) (fun _ _ _ _ hx hy h => ptX_pre hx hy h) ha hb hl h
theorem fmI_pre {a b : List Int} {r s : List UInt8} (ha : ∀ x ∈ a, 0 ≤ x ∧ x ≤ 1000000) (hb : ∀ x ∈ b, 0 ≤ x ∧ x ≤ 1000000) (hl : a.length ≤ b.length) (h : fm ptI a ++ r = fm ptI b ++ s) : a = b.take a.length ∧ r = fm ptI (b.drop a.length) ++ s :=
  fm_pre (Q := fun x : Int => 0 ≤ x ∧ x ≤ 1000000) (fun _ _ _ _ hx hy h => ptI_pre hx hy h) ha hb hl h

/-! ### What holds of all -/
theorem all_suc {n i : Nat} {C : (j : Nat) → j < n → Prop} (h : ∀ j (hj : j < n), j < i → C j hj) (hi : i < n) (hc : C i hi) : ∀ j (hj : j < n), j < i + 1 → C j hj := by
  intro j hj hlt
  by_cases e : j = i
  · subst e; exact hc
  · exact h j hj (by omega)
theorem inB_no {n l h : Int} : inB n l h = false ↔ ¬ (l ≤ n ∧ n ≤ h) := by
  rw [← inB_iff]; cases inB n l h <;> simp

/-! ### Appends, one by one -/
section
variable {α : Type} [Enc α] {o : Bool} {xs : List α} {i : Nat}
theorem tk1 {c : List Cell} (h : i < xs.length) (hc : c = cs o [xs[i]]) : cs o (xs.take i) ++ c ++ [] = cs o (xs.take (i + 1)) := by rw [fil h hc, List.append_nil]
theorem tk2 {p q : List Cell} (h : i < xs.length) (hc : p ++ q = cs o [xs[i]]) : cs o (xs.take i) ++ p ++ q ++ [] = cs o (xs.take (i + 1)) := by rw [fil2 h hc, List.append_nil]
/-- Something put behind, as it lies. -/
theorem apR {N : List Cell} {n m s : Nat} {K : List Cell → Nat → Prop} (h : K (cs o xs ++ N) (n + m)) (hn : xs.length = n := by first | rfl | (simp; done) | (simp; omega)) (hs : sz α = s := by rfl) : ∃ N', ((cs o xs).drop 0).take (n * s) ++ N = N' ∧ ∃ q, n + m = q ∧ K N' q := by
  subst hn hs
  exact ⟨_, rfl, _, rfl, by rw [cs_whole]; exact h⟩
theorem cnt_ge {α : Type} {c : α → Nat} {xs : List α} {i : Nat} (h : i < xs.length) : c xs[i] ≤ cnt c xs := cnt_mem (List.getElem_mem h)
theorem cnt_ge2 {α : Type} {c : α → Nat} {xs : List α} {x : α} (h : x ∈ xs) : c x ≤ cnt c xs := cnt_mem h
end

/-! ### What leads to nothing -/
section
variable {o : Bool}
theorem clo_sl {α : Type} [Enc α] {xs : List α} {l : List Cell} (h : closedL l = true) : closedL (slE o xs :: l) = true := by
  show (closedL (cs o xs) && closedL l) = true
  rw [cs_clo, h]; rfl
theorem clo_dsk {d : Dsk} : closedL (dskC o d) = true := clo_sl (clo_sl (clo_sl (l := [b1 d.down]) rfl))
theorem clo_txn {t : Txn} : closedL (txnC o t) = true := clo_sl (clo_sl (clo_sl (l := b1 t.d.down :: i6 t.m.gen :: i6 t.m.root :: i6 t.root :: [slE o t.new]) (clo_sl (l := []) rfl)))
theorem clo_nod {x : Nod} : closedL (nodC o x) = true := clo_sl (clo_sl (clo_sl (l := []) rfl))
theorem clo_fre {x : Fre} : closedL (freC o x) = true := clo_nod
theorem clo_wri {w : Wri} : closedL (wriC o w) = true := clo_sl (l := []) rfl
end
end

section
open Go Go.RowKit Go.IntWalk
open Enc (sz cs)

/-- Faults are right. -/
structure FauOk (l : List Fau) : Prop where
  len : l.length ≤ 20
  fau : ∀ i (h : i < l.length), 0 ≤ l[i].pos ∧ l[i].pos ≤ 100000 ∧ 0 ≤ l[i].keep ∧ l[i].keep ≤ 1048575 ∧ 0 ≤ l[i].cut ∧ l[i].cut ≤ 256 ∧ (0 < i → l[i - 1].pos < l[i].pos)
open Classical in
noncomputable def fauOk (l : List Fau) : Bool := decide (FauOk l)
theorem fauOk_iff {l : List Fau} : fauOk l = true ↔ FauOk l := by unfold fauOk; simp
theorem fauOk_no {l : List Fau} (h : ¬ FauOk l) : fauOk l = false := by unfold fauOk; simp [h]
theorem fauOk_yes {l : List Fau} (h : FauOk l) : fauOk l = true := fauOk_iff.2 h
abbrev dsk0 : Dsk := ⟨[], [], 0, [], false⟩
/-- A new disk, its first sector `b`. -/
abbrev dskB (n : Nat) (b : List UInt8) (l : List Fau) : Dsk := ⟨b :: List.replicate (n - 1) [], [], 0, l, false⟩
open Classical in
noncomputable def newD (n : Int) (b : List UInt8) (l : List Fau) : Dsk := if 4 ≤ n ∧ n ≤ 48 ∧ FauOk l then dskB n.toNat b l else dsk0
theorem newD_yes {n : Int} {b : List UInt8} {l : List Fau} (h : 4 ≤ n ∧ n ≤ 48 ∧ FauOk l) : newD n b l = dskB n.toNat b l := if_pos h
theorem newD_no {n : Int} {b : List UInt8} {l : List Fau} (h : ¬ (4 ≤ n ∧ n ≤ 48 ∧ FauOk l)) : newD n b l = dsk0 := if_neg h
theorem dskB_ok {n : Nat} {b : List UInt8} {l : List Fau} (h1 : 4 ≤ n) (h2 : n ≤ 48) (hb : b.length ≤ 256) : DskOk (dskB n b l) ↔ FauOk l := by
  constructor
  · intro h; exact ⟨h.faults, h.fau⟩
  · intro h
    refine ⟨by simp; omega, by simp, by simp, h.len, by simp, fun i hi => ?_, fun i hi => by simp at hi, h.fau⟩
    cases i with
    | zero => exact hb
    | succ i => simp
theorem rep_suc {n : Nat} (h : 1 ≤ n) : List.replicate n ([] : List UInt8) = [] :: List.replicate (n - 1) [] := by
  obtain ⟨m, rfl⟩ : ∃ m, n = m + 1 := ⟨n - 1, by omega⟩
  rfl
theorem zD_new {n : Nat} {b : List UInt8} {l : List Fau} (h1 : 1 ≤ n) : zD (dskB n b l) = n + b.length + l.length := by
  have : ∀ m, cnt List.length (List.replicate m ([] : List UInt8)) = 0 := by
    intro m
    induction m with
    | zero => rfl
    | succ m ih => rw [List.replicate_succ]; simp [cnt, ih]
  simp [zD, zBS, zWS, cnt, this]; omega

/-- The newest root so far. -/
def bmS (d : Dsk) (a : Met × Bool) (i : Int) : Met × Bool :=
  if (gM (rdS d i).1).2 = true ∧ (gM (rdS d i).1).1.gen.tmod 2 = i ∧ (a.2 = false ∨ a.1.gen < (gM (rdS d i).1).1.gen) then ((gM (rdS d i).1).1, true) else a
def bestM (d : Dsk) : Met × Bool := bmS d (bmS d (⟨0, 0⟩, false) 0) 1
theorem bmS_yes {d : Dsk} {a : Met × Bool} {i : Int} (h1 : (gM (rdS d i).1).2 = true) (h2 : (gM (rdS d i).1).1.gen.tmod 2 = i) (h3 : a.2 = false ∨ a.1.gen < (gM (rdS d i).1).1.gen) : bmS d a i = ((gM (rdS d i).1).1, true) := if_pos ⟨h1, h2, h3⟩
theorem bmS_no {d : Dsk} {a : Met × Bool} {i : Int} (h : ¬ ((gM (rdS d i).1).2 = true ∧ (gM (rdS d i).1).1.gen.tmod 2 = i ∧ (a.2 = false ∨ a.1.gen < (gM (rdS d i).1).1.gen))) : bmS d a i = a := if_neg h
theorem gM_nil : (gM []).2 = false := by
  cases h : (gM []).2 with
  | false => rfl
  | true =>
    unfold gM at h
    split at h
    · rename_i h1
      have := gP_ok h1.1
      simp at this
    · simp at h
theorem rdS_bad {d : Dsk} {n : Int} (h : (rdS d n).2 = false) : (rdS d n).1 = [] := by
  unfold rdS at *
  split
  · rename_i h1; rw [if_pos h1] at h; simp at h
  · rfl
abbrev txn0 : Txn := ⟨dsk0, ⟨0, 0⟩, 0, []⟩
/-- A tree that is under way on a disk. -/
def txN (d : Dsk) : Txn := if (bestM d).2 = true then ⟨d, (bestM d).1, (bestM d).1.root, []⟩ else txn0
theorem txN_yes {d : Dsk} (h : (bestM d).2 = true) : txN d = ⟨d, (bestM d).1, (bestM d).1.root, []⟩ := if_pos h
theorem txN_no {d : Dsk} (h : (bestM d).2 = false) : txN d = txn0 := if_neg (by rw [h]; simp)
/-- The first sector of a new disk without a tree. -/
noncomputable def fmtD (n : Int) (l : List Fau) : Dsk := newD n (ptM ⟨0, 0⟩) l

/-! ### Bounds -/
theorem cnt_add {α : Type} {c d e : α → Nat} (h : ∀ x, e x = c x + d x) (xs : List α) : cnt e xs = cnt c xs + cnt d xs := by
  induction xs with
  | nil => rfl
  | cons x xs ih => simp only [cnt, ih, h x]; omega
theorem cW_cnt (l : List Wri) : cnt cW l = l.length + cnt (fun w : Wri => w.b.length) l := by
  rw [cnt_add (c := fun _ => 1) (d := fun w : Wri => w.b.length) (fun _ => rfl), cnt_one]
theorem cD_le (d : Dsk) : cnt List.length d.secs + cnt cW d.cache + 3 * d.faults.length ≤ 4 * zD d := by
  rw [cW_cnt]; unfold zD zBS zWS; omega
theorem zSS_ge (l : List ByteArray) : l.length ≤ zSS l := by unfold zSS; omega
theorem cFr_cnt : ∀ l : List Fre, cnt cFr l ≤ 4 * zFrS l
  | [] => by simp [cnt]
  | f :: l => by
    have := cFr_cnt l
    have h1 := zSS_ge f.x.keys
    have h2 := zSS_ge f.x.vals
    unfold zFrS at *
    simp only [cnt, List.length_cons, cFr, zN] at *
    omega
theorem cT_le (t : Txn) : cnt List.length t.d.secs + cnt cW t.d.cache + 3 * t.d.faults.length + cnt cFr t.new ≤ 4 * zT t := by
  have := cD_le t.d
  have := cFr_cnt t.new
  unfold zT; omega
theorem OkD.of {d : Dsk} (h : zD d ≤ 2000000) : OkD d := by
  unfold zD zBS zWS at h
  refine ⟨by omega, fun x hx => ?_, by omega, fun x hx => ?_, by omega⟩
  · have := cnt_mem (c := List.length) hx; omega
  · have := cnt_mem (c := fun w : Wri => w.b.length) hx; omega
theorem OkN.of {x : Nod} (h : zN x ≤ 2000000) : OkN x := by
  unfold zN zSS at h
  exact ⟨by omega, by omega, by omega⟩
theorem OkT.of {t : Txn} (h : zT t ≤ 2000000) : OkT t := by
  unfold zT at h
  refine ⟨.of (by omega), by unfold zFrS at h; omega, fun f hf => .of ?_⟩
  have := cnt_mem (c := fun f : Fre => zN f.x) hf
  unfold zFrS at h; omega
theorem zT_nod {t : Txn} {f : Fre} (hf : f ∈ t.new) : zN f.x ≤ zT t := by
  have := cnt_mem (c := fun f : Fre => zN f.x) hf
  unfold zT zFrS; omega
theorem zT_d {t : Txn} : zD t.d ≤ zT t := by unfold zT; omega
theorem zT_new {t : Txn} : t.new.length ≤ zT t := by unfold zT zFrS; omega
end

section
open Go Go.RowKit Go.IntWalk
open Enc (sz cs)

abbrev nod0 : Nod := ⟨false, [], [], []⟩
theorem ptX_sb (b : List UInt8) : ptX (sb b) = uenc (clN b.length) ++ b := by simp [ptX, bl]
theorem gT_enc {a r : List UInt8} {s : ByteArray} (hs : s.size ≤ 1000000) {p : Int} (hp : p = a.length) : (gT (a ++ ptX s ++ r) p).2.2 = true := by
  have hl := bl_len s
  have e := gU_enc (a := a) (r := bl s ++ r) (n := (bl s).length) (by omega) hp
  have e2 : a ++ ptX s ++ r = a ++ uenc (bl s).length ++ (bl s ++ r) := by simp only [ptX, List.append_assoc]; rw [clN_nat (by omega)]
  rw [e2, gT_yes (by rw [e]) (by rw [e]; simp; omega)]
/-- A text that is read: what is behind it. -/
theorem gT_step {b : List UInt8} {p : Nat} (h : (gT b p).2.2 = true) : b.drop p = ptX (sb (gT b p).1) ++ b.drop (gT b p).2.1 ∧ (gT b p).1.length ≤ b.length ∧ p ≤ (gT b p).2.1 ∧ (gT b p).2.1 ≤ b.length ∧ (gT b p).1.length ≤ 1000000 := by
  obtain ⟨h1, h2, h3⟩ := gT_ok h
  obtain ⟨_, h4, r, h5, h6⟩ := gU_ok h1
  obtain ⟨h7, h8⟩ := gU_le h1
  rw [Int.toNat_natCast] at h5 h6 h8
  rw [h3]
  generalize gU b (p : Int) = g at *
  have e1 : ((b.drop g.2.1).take g.1).length = g.1 := by simp; omega
  refine ⟨?_, by dsimp only; omega, by dsimp only; omega, by dsimp only; omega, by dsimp only; omega⟩
  dsimp only
  rw [ptX_sb, e1, clN_nat h4, h5, List.append_assoc, ← List.drop_drop, List.take_append_drop, h6, ← List.drop_drop, h5, List.drop_left]
theorem gU_step {b : List UInt8} {p : Nat} (h : (gU b p).2.2 = true) : b.drop p = uenc (gU b p).1 ++ b.drop (gU b p).2.1 ∧ p ≤ (gU b p).2.1 ∧ (gU b p).2.1 ≤ b.length := by
  obtain ⟨_, h4, r, h5, h6⟩ := gU_ok h
  obtain ⟨h7, h8⟩ := gU_le h
  rw [Int.toNat_natCast] at h5 h6 h8
  refine ⟨?_, by omega, h7⟩
  rw [h6, ← List.drop_drop, h5, List.drop_left]
theorem gU_enc2 {a r : List UInt8} {n : Int} (_hn : 0 ≤ n ∧ n ≤ 1000000) {p : Int} (hp : p = a.length) : (gU (a ++ ptI n ++ r) p).2.2 = true := by
  rw [gU_enc (clN_le n) hp]

/-! ### What a node's bytes tell -/
theorem hdN_uenc (l : Bool) (n : Int) : hdN l n = uenc (if l then 1 else 0) ++ uenc (clN n) := by
  cases l with
  | true => rw [if_pos rfl, uenc_small (by omega)]; rfl
  | false => rw [if_neg (by simp), uenc_small (by omega)]; rfl
theorem bdN_hd {x : Nod} : ∃ r, bdN x = hdN x.leaf x.keys.length ++ r := ⟨_, by unfold bdN; rw [List.append_assoc]⟩
theorem NodOk.klen {x : Nod} (h : NodOk x) : x.keys.length ≤ 240 := by
  have := h.small; unfold zN zSS at this; omega
theorem NodOk.ksz {x : Nod} (h : NodOk x) : ∀ s ∈ x.keys, s.size ≤ 1000000 := fun s hs => by
  have := h.small
  have h2 := cnt_mem (c := ByteArray.size) hs
  unfold zN zSS at this; omega
theorem NodOk.vsz {x : Nod} (h : NodOk x) : ∀ s ∈ x.vals, s.size ≤ 1000000 := fun s hs => by
  have := h.small
  have h2 := cnt_mem (c := ByteArray.size) hs
  unfold zN zSS at this; omega
theorem NodOk.kid2 {x : Nod} (h : NodOk x) : ∀ k ∈ x.kids, 2 ≤ k ∧ k ≤ 47 := fun k hk => by
  cases hl : x.leaf with
  | true => obtain ⟨_, _, e⟩ := h.leaf hl; rw [e] at hk; cases hk
  | false =>
    obtain ⟨i, hi, rfl⟩ := List.getElem_of_mem hk
    exact h.kid hl i hi
theorem NodOk.kid1 {x : Nod} (h : NodOk x) : ∀ k ∈ x.kids, 0 ≤ k ∧ k ≤ 1000000 := fun k hk => by have := h.kid2 k hk; omega
theorem hd_eq {x : Nod} {l : Bool} {n : Nat} {r : List UInt8} (hn : n ≤ 1000000) (hk : x.keys.length ≤ 1000000) (h : bdN x = hdN l n ++ r) : x.leaf = l ∧ x.keys.length = n ∧ r = fm ptX x.keys ++ (if x.leaf then fm ptX x.vals else fm ptI x.kids) := by
  unfold bdN at h
  rw [hdN_uenc, hdN_uenc, List.append_assoc, List.append_assoc, List.append_assoc] at h
  obtain ⟨h1, h2⟩ := uenc_inj (by split <;> omega) (by split <;> omega) h
  rw [clN_nat hk, clN_nat hn] at h2
  obtain ⟨h3, h4⟩ := uenc_inj hk hn h2
  refine ⟨?_, h3, h4.symm⟩
  cases hx : x.leaf <;> cases l <;> simp_all

/-- No node has these bytes. -/
def NoN (b : List UInt8) : Prop := ∀ x, NodOk x → bdN x ≠ b
theorem bdN_inj {x y : Nod} (hx : NodOk x) (hy : NodOk y) (h : bdN x = bdN y) : x = y := by
  have h0 : bdN x = hdN y.leaf y.keys.length ++ (fm ptX y.keys ++ (if y.leaf then fm ptX y.vals else fm ptI y.kids)) := by rw [h]; unfold bdN; rw [List.append_assoc]
  have a1 := hx.klen; have a2 := hy.klen
  obtain ⟨h1, h2, h3⟩ := hd_eq (by omega) (by omega) h0
  obtain ⟨h4, h5⟩ := fmX_pre hx.ksz hy.ksz (by omega) h3.symm
  have h6 : x.keys = y.keys := by rw [h4, h2, List.take_length]
  rw [h2, List.drop_length, fm_nil, List.nil_append] at h5
  obtain ⟨xl, xk, xv, xi⟩ := x
  obtain ⟨yl, yk, yv, yi⟩ := y
  dsimp only at h1 h2 h5 h6 hx hy
  subst h1 h6
  cases xl with
  | true =>
    obtain ⟨_, b2, b3⟩ := hx.leaf rfl
    obtain ⟨_, c2, c3⟩ := hy.leaf rfl
    dsimp only at b2 b3 c2 c3
    subst b3 c3
    simp only [if_true] at h5
    obtain ⟨h7, _⟩ := fmX_pre (r := []) (s := []) hx.vsz hy.vsz (by dsimp only; omega) (by rw [List.append_nil, List.append_nil]; exact h5)
    dsimp only at h7
    rw [h7, show xv.length = yv.length by omega, List.take_length]
  | false =>
    obtain ⟨_, b2, b3⟩ := hx.inner rfl
    obtain ⟨_, c2, c3⟩ := hy.inner rfl
    dsimp only at b2 b3 c2 c3
    subst b3 c3
    simp only [Bool.false_eq_true, if_false] at h5
    obtain ⟨h7, _⟩ := fmI_pre (r := []) (s := []) hx.kid1 hy.kid1 (by dsimp only; omega) (by rw [List.append_nil, List.append_nil]; exact h5)
    dsimp only at h7
    rw [h7, show xi.length = yi.length by omega, List.take_length]

open Classical in
/-- The node of these bytes. -/
noncomputable def gN (b : List UInt8) : Nod × Bool := if h : ∃ x, NodOk x ∧ bdN x = b then (Classical.choose h, true) else (nod0, false)
theorem gN_yes {b : List UInt8} {x : Nod} (h : NodOk x) (hb : bdN x = b) : gN b = (x, true) := by
  have h2 : ∃ x, NodOk x ∧ bdN x = b := ⟨x, h, hb⟩
  unfold gN
  rw [dif_pos h2]
  obtain ⟨h3, h4⟩ := Classical.choose_spec h2
  rw [bdN_inj h3 h (h4.trans hb.symm)]
theorem gN_no {b : List UInt8} (h : NoN b) : gN b = (nod0, false) := by
  unfold gN
  rw [dif_neg (fun ⟨x, h1, h2⟩ => h x h1 h2)]
theorem gN_ok {b : List UInt8} (h : (gN b).2 = true) : NodOk (gN b).1 ∧ bdN (gN b).1 = b := by
  by_cases h2 : ∃ x, NodOk x ∧ bdN x = b
  · obtain ⟨x, h3, h4⟩ := h2
    rw [gN_yes h3 h4]; exact ⟨h3, h4⟩
  · rw [gN_no (fun x a c => h2 ⟨x, a, c⟩)] at h; cases h
theorem gN_cases (b : List UInt8) : (∃ x, NodOk x ∧ bdN x = b ∧ gN b = (x, true)) ∨ (NoN b ∧ gN b = (nod0, false)) := by
  by_cases h2 : ∃ x, NodOk x ∧ bdN x = b
  · obtain ⟨x, h3, h4⟩ := h2
    exact .inl ⟨x, h3, h4, gN_yes h3 h4⟩
  · exact .inr ⟨fun x a c => h2 ⟨x, a, c⟩, gN_no (fun x a c => h2 ⟨x, a, c⟩)⟩

theorem ng {b : Bool} (h : ¬ ((!b) = true)) : b = true := by cases b <;> simp_all
theorem ngf {b : Bool} (h : (!b) = true) (h2 : b = true) : False := by subst h2; cases h
theorem ng0 {b : Bool} (h : (!b) = true) : b = false := by cases b <;> simp_all

/-! ### Writing, step by step -/
theorem fmX_take (l : List ByteArray) (i : Nat) : (fm ptX (l.take i)).length ≤ 3 * l.length + cnt ByteArray.size l := by
  have h1 := fmX_len (l := l.take i)
  have h2 := cnt_le (c := ByteArray.size) (xs := l) (i := i)
  have h3 : (l.take i).length ≤ l.length := by simp; omega
  omega
theorem fmI_take (l : List Int) (i : Nat) : (fm ptI (l.take i)).length ≤ 3 * l.length := by
  have h1 := fmI_len (l := l.take i)
  have h3 : (l.take i).length ≤ l.length := by simp; omega
  omega
theorem pt_fm {H : List UInt8} {l : List ByteArray} {i : Nat} (h : i < l.length) : ptT (H ++ fm ptX (l.take i)) (bl l[i]) = H ++ fm ptX (l.take (i + 1)) := by
  rw [fm_take h]; simp only [ptT, ptX, List.append_assoc]
theorem pu_fm {H : List UInt8} {l : List Int} {i : Nat} (h : i < l.length) : ptU (H ++ fm ptI (l.take i)) l[i] = H ++ fm ptI (l.take (i + 1)) := by
  rw [fm_take h]; simp only [ptU, ptI, List.append_assoc]
theorem fm_0 {α : Type} {H : List UInt8} {f : α → List UInt8} {l : List α} : H = H ++ fm f (l.take 0) := by simp [fm]
theorem hdN_len {l : Bool} {n : Int} : (hdN l n).length ≤ 4 := by
  have := uenc_len (clN_le n)
  simp only [hdN, List.length_append, List.length_cons, List.length_nil]; omega

/-! ### Reading, step by step -/
/-- So far these keys (values, kids) have been read; at `p` it goes on. -/
structure RdK (b : List UInt8) (l : Bool) (n : Nat) (ks : List ByteArray) (p : Nat) : Prop where
  eq : b = hdN l n ++ fm ptX ks ++ b.drop p
  at' : p = (hdN l n ++ fm ptX ks).length
  nb : n ≤ 1000000
  sz : ∀ s ∈ ks, s.size ≤ 1000000
  le : ks.length ≤ n

theorem RdK.of {b : List UInt8} {l : Bool} {n : Nat} {ks : List ByteArray} {p : Nat} (h : RdK b l n ks p) {x : Nod} (hx : NodOk x) (hb : bdN x = b) : x.leaf = l ∧ x.keys.length = n ∧ ks = x.keys.take ks.length ∧ b.drop p = fm ptX (x.keys.drop ks.length) ++ (if x.leaf then fm ptX x.vals else fm ptI x.kids) := by
  have a1 := hx.klen
  have h0 : bdN x = hdN l n ++ (fm ptX ks ++ b.drop p) := by rw [← List.append_assoc, ← h.eq]; exact hb
  obtain ⟨h1, h2, h3⟩ := hd_eq h.nb (by omega) h0
  obtain ⟨h4, h5⟩ := fmX_pre h.sz hx.ksz (by have := h.le; omega) h3
  exact ⟨h1, h2, h4, h5⟩

theorem hd_ok {b : List UInt8} (h1 : (gU b 0).2.2 = true) (h2 : (gU b (gU b 0).2.1).2.2 = true) (h3 : (gU b 0).1 ≤ 1) : RdK b (decide ((gU b 0).1 = 1)) (gU b (gU b 0).2.1).1 [] (gU b (gU b 0).2.1).2.1 := by
  obtain ⟨a1, a2, a3⟩ := gU_step (p := 0) h1
  obtain ⟨c1, c2, c3⟩ := gU_step h2
  have d1 := (gU_small b (gU b 0).2.1).1
  obtain ⟨e1, e2, e3, e4, e5⟩ := gU_ok h1
  obtain ⟨f1, f2, f3, f4, f5⟩ := gU_ok h2
  rw [Int.toNat_natCast] at f5
  have hh : hdN (decide ((gU b 0).1 = 1)) ((gU b (gU b 0).2.1).1 : Nat) = uenc (gU b 0).1 ++ uenc (gU b (gU b 0).2.1).1 := by
    rw [hdN_uenc, clN_nat d1]
    congr 2
    by_cases h : (gU b 0).1 = 1
    · rw [h]; rfl
    · rw [show (gU b 0).1 = 0 by omega]; rfl
  refine ⟨?_, ?_, d1, by simp, by simp⟩
  · rw [hh, fm_nil, List.append_nil, List.append_assoc, ← c1]
    simpa using a1
  · rw [hh, fm_nil, List.append_nil, List.length_append, f5, e5]; simp
theorem hd_no {x : Nod} (hx : NodOk x) : (gU (bdN x) 0).2.2 = true ∧ (gU (bdN x) 0).1 ≤ 1 ∧ (gU (bdN x) (gU (bdN x) 0).2.1).2.2 = true ∧ (gU (bdN x) (gU (bdN x) 0).2.1).1 = x.keys.length := by
  have a1 := hx.klen
  obtain ⟨r, hr⟩ := bdN_hd (x := x)
  rw [hdN_uenc, List.append_assoc] at hr
  have h1 := gU_enc (a := []) (r := uenc (clN x.keys.length) ++ r) (n := if x.leaf then 1 else 0) (by split <;> omega) (p := 0) rfl
  rw [List.nil_append, ← hr] at h1
  rw [h1]
  have h2 := gU_enc (a := uenc (if x.leaf then 1 else 0)) (r := r) (n := clN x.keys.length) (clN_le _) (p := ([] : List UInt8).length + (uenc (if x.leaf then 1 else 0)).length) (by simp)
  rw [List.append_assoc, ← hr] at h2
  have e : (((([] : List UInt8).length + (uenc (if x.leaf then 1 else 0)).length : Nat)) : Int) = ([] : List UInt8).length + (uenc (if x.leaf then 1 else 0)).length := by simp
  refine ⟨rfl, by dsimp only; split <;> omega, ?_, ?_⟩
  · rw [e, h2]
  · rw [e, h2]; exact clN_nat (by omega)

theorem RdK.step {b : List UInt8} {l : Bool} {n : Nat} {ks : List ByteArray} {p : Nat} (h : RdK b l n ks p) (hl : ks.length < n) (ht : (gT b p).2.2 = true) : RdK b l n (ks ++ [sb (gT b p).1]) (gT b p).2.1 := by
  obtain ⟨a1, a2, a3, a4, a5⟩ := gT_step ht
  have hq : b = hdN l n ++ fm ptX (ks ++ [sb (gT b p).1]) ++ b.drop (gT b p).2.1 := by
    rw [fm_snoc]
    conv => lhs; rw [h.eq, a1]
    simp only [List.append_assoc]
  refine ⟨hq, ?_, h.nb, ?_, by simp; omega⟩
  · have := congrArg List.length hq
    simp only [List.length_append, List.length_drop] at this ⊢
    omega
  · intro s hs
    rcases List.mem_append.1 hs with hs | hs
    · exact h.sz s hs
    · obtain rfl := List.mem_singleton.1 hs
      rw [sb_len]; omega
theorem RdK.stop {b : List UInt8} {l : Bool} {n : Nat} {ks : List ByteArray} {p : Nat} (h : RdK b l n ks p) (hl : ks.length < n) (ht : (gT b p).2.2 = false) : NoN b := by
  intro x hx hb
  obtain ⟨h1, h2, h3, h4⟩ := h.of hx hb
  have hk : ks.length < x.keys.length := by omega
  rw [List.drop_eq_getElem_cons hk, fm_cons, List.append_assoc] at h4
  have e := h.eq
  rw [h4, ← List.append_assoc] at e
  have := gT_enc (a := hdN l n ++ fm ptX ks) (s := x.keys[ks.length]) (r := fm ptX (x.keys.drop (ks.length + 1)) ++ (if x.leaf then fm ptX x.vals else fm ptI x.kids)) (hx.ksz _ (List.getElem_mem hk)) (p := p) (by rw [h.at'])
  rw [← e, ht] at this
  cases this

theorem RdK.ple {b : List UInt8} {l : Bool} {n : Nat} {ks : List ByteArray} {p : Nat} (h : RdK b l n ks p) : p ≤ b.length := by
  have h1 := congrArg List.length h.eq
  have h2 := h.at'
  rw [List.length_append] at h1
  omega

/-- .. and these values. -/
structure RdV (b : List UInt8) (n : Nat) (ks vs : List ByteArray) (p : Nat) : Prop where
  eq : b = hdN true n ++ fm ptX ks ++ fm ptX vs ++ b.drop p
  at' : p = (hdN true n ++ fm ptX ks ++ fm ptX vs).length
  nb : n ≤ 1000000
  ksz : ∀ s ∈ ks, s.size ≤ 1000000
  klen : ks.length = n
  sz : ∀ s ∈ vs, s.size ≤ 1000000
  le : vs.length ≤ n
theorem RdV.beg {b : List UInt8} {n : Nat} {ks : List ByteArray} {p : Nat} (h : RdK b true n ks p) (hl : ks.length = n) : RdV b n ks [] p :=
  ⟨by rw [fm_nil, List.append_nil]; exact h.eq, by rw [fm_nil, List.append_nil]; exact h.at', h.nb, h.sz, hl, by simp, by simp⟩
theorem RdV.of {b : List UInt8} {n : Nat} {ks vs : List ByteArray} {p : Nat} (h : RdV b n ks vs p) {x : Nod} (hx : NodOk x) (hb : bdN x = b) : x.leaf = true ∧ x.keys = ks ∧ x.vals.length = n ∧ vs = x.vals.take vs.length ∧ b.drop p = fm ptX (x.vals.drop vs.length) := by
  have a1 := hx.klen
  have h0 : bdN x = hdN true n ++ (fm ptX ks ++ (fm ptX vs ++ b.drop p)) := by rw [← List.append_assoc, ← List.append_assoc, ← h.eq]; exact hb
  obtain ⟨h1, h2, h3⟩ := hd_eq h.nb (by omega) h0
  obtain ⟨h4, h5⟩ := fmX_pre h.ksz hx.ksz (by have := h.klen; omega) h3
  have hk := h.klen
  obtain ⟨b1, b2, b3⟩ := hx.leaf h1
  rw [h1, hk, ← h2, List.drop_length, fm_nil, List.nil_append] at h5
  have h6 : x.keys = ks := by rw [h4, hk, ← h2, List.take_length]
  have h5' : fm ptX vs ++ b.drop p = fm ptX x.vals ++ [] := by rw [List.append_nil]; exact h5
  obtain ⟨h7, h8⟩ := fmX_pre h.sz hx.vsz (by have := h.le; omega) h5'
  rw [List.append_nil] at h8
  exact ⟨h1, h6, by omega, h7, h8⟩
theorem RdV.step {b : List UInt8} {n : Nat} {ks vs : List ByteArray} {p : Nat} (h : RdV b n ks vs p) (hl : vs.length < n) (ht : (gT b p).2.2 = true) : RdV b n ks (vs ++ [sb (gT b p).1]) (gT b p).2.1 := by
  obtain ⟨a1, a2, a3, a4, a5⟩ := gT_step ht
  have hq : b = hdN true n ++ fm ptX ks ++ fm ptX (vs ++ [sb (gT b p).1]) ++ b.drop (gT b p).2.1 := by
    rw [fm_snoc]
    conv => lhs; rw [h.eq, a1]
    simp only [List.append_assoc]
  refine ⟨hq, ?_, h.nb, h.ksz, h.klen, ?_, by simp; omega⟩
  · have := congrArg List.length hq
    simp only [List.length_append, List.length_drop] at this ⊢
    omega
  · intro s hs
    rcases List.mem_append.1 hs with hs | hs
    · exact h.sz s hs
    · obtain rfl := List.mem_singleton.1 hs
      rw [sb_len]; omega
theorem RdV.stop {b : List UInt8} {n : Nat} {ks vs : List ByteArray} {p : Nat} (h : RdV b n ks vs p) (hl : vs.length < n) (ht : (gT b p).2.2 = false) : NoN b := by
  intro x hx hb
  obtain ⟨h1, h2, h3, h4, h5⟩ := h.of hx hb
  have hk : vs.length < x.vals.length := by omega
  rw [List.drop_eq_getElem_cons hk, fm_cons] at h5
  have e := h.eq
  rw [h5, ← List.append_assoc] at e
  have := gT_enc (a := hdN true n ++ fm ptX ks ++ fm ptX vs) (s := x.vals[vs.length]) (r := fm ptX (x.vals.drop (vs.length + 1))) (hx.vsz _ (List.getElem_mem hk)) (p := p) (by rw [h.at'])
  rw [← e, ht] at this
  cases this
theorem RdV.fin {b : List UInt8} {n : Nat} {ks vs : List ByteArray} {p : Nat} (h : RdV b n ks vs p) (hl : vs.length = n) : bdN ⟨true, ks, vs, []⟩ ++ b.drop p = b ∧ ∀ x, NodOk x → bdN x = b → x = ⟨true, ks, vs, []⟩ := by
  constructor
  · have e := h.eq
    show hdN true ks.length ++ fm ptX ks ++ fm ptX vs ++ b.drop p = b
    rw [h.klen]; exact e.symm
  · intro x hx hb
    obtain ⟨h1, h2, h3, h4, h5⟩ := h.of hx hb
    obtain ⟨b1, b2, b3⟩ := hx.leaf h1
    have h6 : x.vals = vs := by rw [h4, hl, ← h3, List.take_length]
    obtain ⟨xl, xk, xv, xi⟩ := x
    dsimp only at *
    subst h1 h2 h6 b3; rfl

theorem RdV.ple {b : List UInt8} {n : Nat} {ks vs : List ByteArray} {p : Nat} (h : RdV b n ks vs p) : p ≤ b.length := by
  have h1 := congrArg List.length h.eq
  have h2 := h.at'
  rw [List.length_append] at h1
  omega

/-- .. or these kids. -/
structure RdI (b : List UInt8) (n : Nat) (ks : List ByteArray) (is : List Int) (p : Nat) : Prop where
  eq : b = hdN false n ++ fm ptX ks ++ fm ptI is ++ b.drop p
  at' : p = (hdN false n ++ fm ptX ks ++ fm ptI is).length
  nb : n ≤ 1000000
  ksz : ∀ s ∈ ks, s.size ≤ 1000000
  klen : ks.length = n
  sz : ∀ s ∈ is, 0 ≤ s ∧ s ≤ 1000000
  le : is.length ≤ n + 1
theorem RdI.beg {b : List UInt8} {n : Nat} {ks : List ByteArray} {p : Nat} (h : RdK b false n ks p) (hl : ks.length = n) : RdI b n ks [] p :=
  ⟨by rw [fm_nil, List.append_nil]; exact h.eq, by rw [fm_nil, List.append_nil]; exact h.at', h.nb, h.sz, hl, by simp, by simp⟩
theorem RdI.of {b : List UInt8} {n : Nat} {ks : List ByteArray} {is : List Int} {p : Nat} (h : RdI b n ks is p) {x : Nod} (hx : NodOk x) (hb : bdN x = b) : x.leaf = false ∧ x.keys = ks ∧ x.kids.length = n + 1 ∧ is = x.kids.take is.length ∧ b.drop p = fm ptI (x.kids.drop is.length) := by
  have a1 := hx.klen
  have h0 : bdN x = hdN false n ++ (fm ptX ks ++ (fm ptI is ++ b.drop p)) := by rw [← List.append_assoc, ← List.append_assoc, ← h.eq]; exact hb
  obtain ⟨h1, h2, h3⟩ := hd_eq h.nb (by omega) h0
  obtain ⟨h4, h5⟩ := fmX_pre h.ksz hx.ksz (by have := h.klen; omega) h3
  have hk := h.klen
  obtain ⟨b1, b2, b3⟩ := hx.inner h1
  rw [h1, hk, ← h2, List.drop_length, fm_nil, List.nil_append] at h5
  have h6 : x.keys = ks := by rw [h4, hk, ← h2, List.take_length]
  have h5' : fm ptI is ++ b.drop p = fm ptI x.kids ++ [] := by rw [List.append_nil]; exact h5
  obtain ⟨h7, h8⟩ := fmI_pre h.sz hx.kid1 (by have := h.le; omega) h5'
  rw [List.append_nil] at h8
  exact ⟨h1, h6, by omega, h7, h8⟩
theorem RdI.step {b : List UInt8} {n : Nat} {ks : List ByteArray} {is : List Int} {p : Nat} (h : RdI b n ks is p) (hl : is.length < n + 1) (ht : (gU b p).2.2 = true) : RdI b n ks (is ++ [((gU b p).1 : Int)]) (gU b p).2.1 := by
  obtain ⟨a1, a2, a3⟩ := gU_step ht
  have a4 := (gU_small b p).1
  have hq : b = hdN false n ++ fm ptX ks ++ fm ptI (is ++ [((gU b p).1 : Int)]) ++ b.drop (gU b p).2.1 := by
    rw [fm_snoc, show ptI ((gU b p).1 : Int) = uenc (gU b p).1 from congrArg uenc (clN_nat a4)]
    conv => lhs; rw [h.eq, a1]
    simp only [List.append_assoc]
  refine ⟨hq, ?_, h.nb, h.ksz, h.klen, ?_, by simp; omega⟩
  · have := congrArg List.length hq
    simp only [List.length_append, List.length_drop] at this ⊢
    omega
  · intro s hs
    rcases List.mem_append.1 hs with hs | hs
    · exact h.sz s hs
    · obtain rfl := List.mem_singleton.1 hs
      omega
theorem RdI.stop {b : List UInt8} {n : Nat} {ks : List ByteArray} {is : List Int} {p : Nat} (h : RdI b n ks is p) (hl : is.length < n + 1) (ht : (gU b p).2.2 = false) : NoN b := by
  intro x hx hb
  obtain ⟨h1, h2, h3, h4, h5⟩ := h.of hx hb
  have hk : is.length < x.kids.length := by omega
  rw [List.drop_eq_getElem_cons hk, fm_cons] at h5
  have e := h.eq
  rw [h5, ← List.append_assoc] at e
  have := gU_enc2 (a := hdN false n ++ fm ptX ks ++ fm ptI is) (n := x.kids[is.length]) (r := fm ptI (x.kids.drop (is.length + 1))) (hx.kid1 _ (List.getElem_mem hk)) (p := p) (by rw [h.at'])
  rw [← e, ht] at this
  cases this
theorem RdI.fin {b : List UInt8} {n : Nat} {ks : List ByteArray} {is : List Int} {p : Nat} (h : RdI b n ks is p) (hl : is.length = n + 1) : bdN ⟨false, ks, [], is⟩ ++ b.drop p = b ∧ ∀ x, NodOk x → bdN x = b → x = ⟨false, ks, [], is⟩ := by
  constructor
  · have e := h.eq
    show hdN false ks.length ++ fm ptX ks ++ fm ptI is ++ b.drop p = b
    rw [h.klen]; exact e.symm
  · intro x hx hb
    obtain ⟨h1, h2, h3, h4, h5⟩ := h.of hx hb
    obtain ⟨b1, b2, b3⟩ := hx.inner h1
    have h6 : x.kids = is := by rw [h4, hl, ← h3, List.take_length]
    obtain ⟨xl, xk, xv, xi⟩ := x
    dsimp only at *
    subst h1 h2 h6 b3; rfl

theorem RdI.ple {b : List UInt8} {n : Nat} {ks : List ByteArray} {is : List Int} {p : Nat} (h : RdI b n ks is p) : p ≤ b.length := by
  have h1 := congrArg List.length h.eq
  have h2 := h.at'
  rw [List.length_append] at h1
  omega
end

section
open Go Go.RowKit Go.IntWalk
open Enc (sz cs)

theorem jA {p q A B : Prop} (k : p → A) (h : q → False := by intro h; first | exact tf h | exact ft h | exact bct h (by assumption) | exact bct (by assumption) h | exact h (by with_reducible rfl) | omega | (dsimp only at h; omega)) : (p → A) ∧ (q → B) := kA h k
theorem jB {p q A B : Prop} (k : q → B) (h : p → False := by intro h; first | exact tf h | exact ft h | exact bct h (by assumption) | exact bct (by assumption) h | exact h (by with_reducible rfl) | omega | (dsimp only at h; omega)) : (p → A) ∧ (q → B) := kB h k
theorem jS {x : Nat} {K : Int → Prop} (k : K ((x + 1 : Nat) : Int)) (h : x < 9223372036854775807 := by omega) : ∃ c, IntKind.i64.wrap ((x : Int) + 1) = c ∧ K c := ke (i64_suc h) k
theorem jI {n : Int} {K : Int → Prop} (k : K n) (h : -9223372036854775808 ≤ n ∧ n ≤ 9223372036854775807 := by omega) : ∃ c, IntKind.i64.wrap n = c ∧ K c := ke (i64_in n h) k
theorem jD {a b c : Bool} {Q : Prop} (k : Q) (ha : a = true := by kernel_rfl) (hb : b = true := by kernel_rfl) (hc : c = true := by kernel_rfl) : Drw a b c ∧ Q := kd ha hb hc k
theorem jP {vals : List (Bool × List Cell)} {outs : List (Option (List Cell))} {K : Prop} (k : K) (h : pureV vals outs = true := by first | rfl | (simp; done)) : PureS vals outs ∧ K := ⟨⟨h⟩, k⟩
section
variable {α : Type} [Enc α] {o : Bool} {xs : List α}
theorem jO {s n : Nat} {K : Prop} (k : K) (hn : xs.length = n := by first | rfl | simp) (hs : sz α = s := by rfl) : (0 = 0 ∧ (cs o xs).length = n * s ∧ (cs o xs).all Cell.shal = true) ∧ K := ⟨owc hn hs, k⟩
theorem jX {s n : Nat} {K : Prop} (k : K) (h : s ≠ 0 := by decide) (hn : xs.length = n := by first | rfl | simp) (hs : sz α = s := by rfl) : (0 = 0 ∧ (cs o xs).length = n * s ∧ s ≠ 0 ∧ (cs o xs).all Cell.shal = true) ∧ K := ⟨exc h hn hs, k⟩
theorem jr {i s : Nat} (h : i < xs.length := by omega) (hs : sz α = s := by rfl) : ((cs o xs).drop (((i : Nat) : Int).toNat * s)).take s = cs o [xs[i]] := rd h hs
theorem jc {i s : Nat} (h : i < xs.length := by omega) (hs : sz α = s := by rfl) : cut (cs o xs) (i * s) s = some (cs o [xs[i]]) := ct0 h hs
theorem jp {i s : Nat} {c : List Cell} {y : α} (h : i < xs.length := by omega) (hc : c = cs o [y] := by exact rfl) (hs : sz α = s := by rfl) : put (cs o xs) (i * s) c = some (cs o (xs.set i y)) := pt0 h y hc hs
end
theorem jb {α : Sort _} {p q : Prop} {a b : α} {K : α → Prop} (h : a = b) (k : K b) (hp : p := by omega) (hq : q := by omega) : (p ∧ q) ∧ ∃ c, a = c ∧ K c := ⟨⟨hp, hq⟩, b, h, k⟩
theorem jM {n q : Nat} {b : Nat} {z : List Cell} {K : Nat → Nat → List Cell → Prop} (k : K n z.length (zerosT z n)) (hn : (n : Int) = (q : Int) := by exact rfl) (h : n ≤ 100000000 := by omega) (hb : Nat.ble b 1000 = true := by rfl) :
    ((n : Int) = (q : Int) ∧ 0 ≤ (n : Int) ∧ (n : Int) ≤ 140737488355328 ∧ (n : Int).toNat * b ≤ bigB) ∧ ∃ m s N, (n : Int).toNat = m ∧ z.length = s ∧ zerosT z m = N ∧ K m s N := km hn h k hb
/-- Appending: what is appended is `N`, `m` elements. -/
theorem jap {so : Option (Nat × List Cell)} {m : Nat} {N : List Cell} {A1 : Prop} {A2 A3 : Nat → Prop} {B : Nat → List Cell → Prop} (k : B m N) (hs : so = some (m, N) := by exact rfl) (h1 : A1 := by (simp; done)) (h2 : A2 m := by exact bgb (by simp; omega)) (h3 : A3 m := by exact bg (by simp; omega)) : ∃ m N, so = some (m, N) ∧ (A1 ∧ A2 m ∧ A3 m) ∧ B m N := ⟨m, N, hs, ⟨h1, h2, h3⟩, k⟩
/-- The state as told. -/
theorem jw {n : Nat} {τ : W} (fl : List Nat) {t : List (Nat × TV)} {hs : List (Option Node)} {nx tn : Nat}
    (h : ptK τ t [] fun ps => pnK τ hs fl ps fun ps => rhK ps fl n 0 hs fun r q => okR n r hs nx = true ∧ tn = τ.tn ∧ tsX τ q t ∧ hsX τ q r hs := by
      (conv => whnf)
      exact And.intro (by kernel_rfl) (And.intro (by kernel_rfl) (by repeat' (first | (with_reducible exact rfl) | ((conv => whnf); first | exact trivial | exact rfl | exact tvi (by first | omega | (dsimp only; omega) | (simp; done)) | exact tvr (by first | omega | (dsimp only; omega) | (simp; done) | (simp; omega)) | exact ⟨rfl, clo_i, by first | rfl | rw [List.take_length] | assumption⟩ | refine And.intro ?_ ?_))))) : WGh n τ ⟨t, idx 0 hs, nx, tn⟩ := w_autoX fl h
end

end Go.Proofs.YtopnaijeicknoaaGreatDoor
