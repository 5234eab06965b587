/- What the laws' own functions do: copies, marks, sizes. -/
import Derived.Test.YtacfohamlkbpjaaVa
namespace Go.Proofs.Ytacfohamlkbpjaa
open Go Go.RowKit Go.IntWalk
open Enc (sz cs)

theorem i64_suc {x : Nat} (h : x < 9223372036854775807) : IntKind.i64.wrap ((x : Int) + 1) = ((x + 1 : Nat) : Int) := (i64_in _ (by omega)).trans (by omega)
theorem i64_nat {x y : Nat} (h : x + y ≤ 9223372036854775807) : IntKind.i64.wrap ((x : Int) + (y : Int)) = ((x + y : Nat) : Int) := (i64_in _ (by omega)).trans (by omega)
theorem u8n (n : Nat) : IntKind.wrap .u8 (n : Int) = ((UInt8.ofNat n).toNat : Int) := by
  rw [IntKind.wrap_u8, UInt8.toNat_ofNat']
  omega

section
variable {α : Type}
/-- Each value marked, one behind the other; `c`: how many marks a value takes. -/
def mkL (c : α → Nat) (f : Nat → α → α) : Nat → List α → List α
  | _, [] => []
  | a, x :: xs => f a x :: mkL c f (a + c x) xs

def cnt (c : α → Nat) : List α → Nat
  | [] => 0
  | x :: xs => c x + cnt c xs

variable {c : α → Nat} {f : Nat → α → α}
@[simp] theorem mkL_len : ∀ {xs : List α} {a : Nat}, (mkL c f a xs).length = xs.length
  | [], _ => rfl
  | x :: xs, a => by simp [mkL, mkL_len (xs := xs)]
theorem cnt_app : ∀ {xs ys : List α}, cnt c (xs ++ ys) = cnt c xs + cnt c ys
  | [], ys => by simp [cnt]
  | x :: xs, ys => by simp [cnt, cnt_app (xs := xs), Nat.add_assoc]
theorem mkL_app : ∀ {xs ys : List α} {a : Nat}, mkL c f a (xs ++ ys) = mkL c f a xs ++ mkL c f (a + cnt c xs) ys
  | [], ys, a => by simp [cnt, mkL]
  | x :: xs, ys, a => by simp [cnt, mkL, mkL_app (xs := xs), Nat.add_assoc]
theorem take_one {xs : List α} {i : Nat} (h : i < xs.length) : xs.take (i + 1) = xs.take i ++ [xs[i]] := (List.take_succ_eq_append_getElem h)
theorem cnt_take {xs : List α} {i : Nat} (h : i < xs.length) : cnt c (xs.take (i + 1)) = cnt c (xs.take i) + c xs[i] := by
  rw [take_one h, cnt_app]; simp [cnt]
theorem mkL_take {xs : List α} {i a : Nat} (h : i < xs.length) : mkL c f a (xs.take (i + 1)) = mkL c f a (xs.take i) ++ [f (a + cnt c (xs.take i)) xs[i]] := by
  rw [take_one h, mkL_app]; rfl
theorem mkL_get : ∀ {xs : List α} {i a : Nat} (h : i < xs.length), (mkL c f a xs)[i]'(by simp [h]) = f (a + cnt c (xs.take i)) xs[i]
  | x :: xs, 0, a, _ => by simp [mkL, cnt]
  | x :: xs, i + 1, a, h => by
    simp only [mkL, List.getElem_cons_succ, List.take_succ_cons, cnt]
    rw [mkL_get (by simpa using h), Nat.add_assoc]
theorem cnt_le {xs : List α} {i : Nat} : cnt c (xs.take i) ≤ cnt c xs := by
  conv => rhs; rw [← List.take_append_drop i xs, cnt_app]
  omega
theorem cnt_one (xs : List α) : cnt (fun _ => 1) xs = xs.length := by
  induction xs with
  | nil => rfl
  | cons x xs ih => simp [cnt, ih]; omega
theorem cnt_take_one {xs : List α} {i : Nat} (h : i ≤ xs.length) : cnt (fun _ => 1) (xs.take i) = i := by rw [cnt_one]; simp [h]
/-- A list in the midst of being turned. -/
theorem set_mid {A xs : List α} {i : Nat} {y : α} (hA : A.length = i) (h : i < xs.length) : (A ++ xs.drop i).set i y = A ++ [y] ++ xs.drop (i + 1) := by
  subst hA
  rw [List.set_append_right _ _ (Nat.le_refl _), Nat.sub_self, List.drop_eq_getElem_cons h, List.set_cons_zero]; simp
theorem get_mid {A xs : List α} {i : Nat} (hA : A.length = i) (h : i < xs.length) : (A ++ xs.drop i)[i]'(by simp [hA]; omega) = xs[i] := by
  subst hA
  rw [List.getElem_append_right (Nat.le_refl _)]; simp
end
/-- What is left of room `left` behind something of size `n`; -1: it is too large. -/
def szR (left : Int) (n : Nat) : Int := if left < n then -1 else left - n
theorem szR_neg {l : Int} {n : Nat} (h : szR l n < 0) : l < n := by unfold szR at h; split at h <;> omega
theorem szR_pos {l : Int} {n : Nat} (h : ¬ szR l n < 0) : (n : Int) ≤ l ∧ szR l n = l - n := by unfold szR at *; split at h <;> simp_all <;> omega

/-- A list in the midst of being filled. -/
theorem zeros_len {z : List Cell} : ∀ {n : Nat}, (zerosT z n).length = n * z.length
  | 0 => by simp [zerosT]
  | n + 1 => by
    have := zeros_len (z := z) (n := n)
    simp [zerosT, Nat.succ_mul]
theorem zeros_succ {z : List Cell} {n : Nat} : zerosT z (n + 1) = z ++ zerosT z n := by simp [zerosT, List.replicate_succ]
theorem zeros_shal {z : List Cell} (h : z.all Cell.shal = true) : ∀ {n : Nat}, (zerosT z n).all Cell.shal = true
  | 0 => rfl
  | n + 1 => by rw [zeros_succ, List.all_append, h, zeros_shal h]; rfl
@[simp] theorem zeros_clo {z : List Cell} (h : closedL z = true) : ∀ {n : Nat}, closedL (zerosT z n) = true
  | 0 => rfl
  | n + 1 => by rw [zeros_succ, closedL_append, h, zeros_clo h]; rfl
/-- Put at the first place that is not filled. -/
theorem ptz {α : Type} [Enc α] {xs : List α} {i n s : Nat} {z c : List Cell} (h : i < n) (hi : i ≤ xs.length) (hs : sz α = s := by rfl) (hz : z.length = s := by rfl) (hc : c.length = s := by rfl) :
    put (cs true (xs.take i) ++ zerosT z (n - i)) (i * s) c = some (cs true (xs.take i) ++ c ++ zerosT z (n - (i + 1))) := by
  subst hs
  obtain ⟨m, hm⟩ : ∃ m, n - i = m + 1 := ⟨n - i - 1, by omega⟩
  rw [hm, zeros_succ, ← List.append_assoc, ← Nat.add_zero (i * sz α), put_mid (cs_take_len hi).symm (put_all (by omega)), show n - (i + 1) = m by omega]

theorem fil {α : Type} [Enc α] {xs : List α} {i : Nat} {o : Bool} {c C : List Cell} (h : i < xs.length) (hc : c = cs o [xs[i]]) : cs o (xs.take i) ++ c ++ C = cs o (xs.take (i + 1)) ++ C := by
  subst hc; rw [take_one h, Enc.app]
theorem fil2 {α : Type} [Enc α] {xs : List α} {i : Nat} {o : Bool} {p q C : List Cell} (h : i < xs.length) (hc : p ++ q = cs o [xs[i]]) : cs o (xs.take i) ++ p ++ q ++ C = cs o (xs.take (i + 1)) ++ C := by
  rw [List.append_assoc (cs o _) p q, fil h hc]
/-- .. a value that lies whole in its cells. -/
theorem ptp {α : Type} [Enc α] {xs : List α} {i n s : Nat} {z c : List Cell} (h : i < xs.length) (hn : n = xs.length) (hc : c = cs true [xs[i]]) (hs : sz α = s := by rfl) (hz : z.length = s := by rfl) :
    put (cs true (xs.take i) ++ zerosT z (n - i)) (i * s) c = some (cs true (xs.take (i + 1)) ++ zerosT z (n - (i + 1))) := by
  rw [ptz (by omega) (by omega) hs hz (by rw [hc, Enc.len, hs]), fil h hc]
theorem fil_all {α : Type} [Enc α] {xs : List α} {i n : Nat} {z : List Cell} (h : i = xs.length) (hn : n = i) : cs true (xs.take i) ++ zerosT z (n - i) = cs true xs := by
  subst hn h; simp [zerosT]
theorem mks {n b : Nat} (h : n ≤ 100000000) (hb : Nat.ble b 1000 = true := by rfl) : ((n : Nat) : Int).toNat * b ≤ bigB := by
  have h2 := Nat.le_of_ble_eq_true hb
  have := Nat.mul_le_mul h h2
  unfold bigB; rw [Int.toNat_natCast]; omega

theorem mkf {α : Type} [Enc α] {c : α → Nat} {f : Nat → α → α} {xs : List α} {i a : Nat} {M : List Cell} (h : i < xs.length) (hM : M = cs true [f (a + cnt c (xs.take i)) xs[i]]) :
    cs true (mkL c f a (xs.take i)) ++ M ++ cs true (xs.drop (i + 1)) = cs true (mkL c f a (xs.take (i + 1)) ++ xs.drop (i + 1)) := by
  subst hM; rw [mkL_take h, Enc.app, Enc.app]
theorem mkf2 {α : Type} [Enc α] {c : α → Nat} {f : Nat → α → α} {xs : List α} {i a : Nat} {M N : List Cell} (h : i < xs.length) (hM : M ++ N = cs true [f (a + cnt c (xs.take i)) xs[i]]) :
    cs true (mkL c f a (xs.take i)) ++ M ++ N ++ cs true (xs.drop (i + 1)) = cs true (mkL c f a (xs.take (i + 1)) ++ xs.drop (i + 1)) := by
  rw [List.append_assoc (cs true _) M N, mkf h hM]
theorem cnt_const (k : Nat) {α : Type} (xs : List α) : cnt (fun _ => k) xs = k * xs.length := by
  induction xs with
  | nil => rfl
  | cons x xs ih => simp [cnt, ih, Nat.mul_succ]; omega
theorem cnt_take_const (k : Nat) {α : Type} {xs : List α} {i : Nat} (h : i ≤ xs.length) : cnt (fun _ => k) (xs.take i) = k * i := by rw [cnt_const]; simp [h]
/-! ### Marks and sizes of the program's data -/
def digs (a : Nat) : List UInt8 := if h : a = 0 then [] else digs (a / 10) ++ [UInt8.ofNat (48 + a % 10)]
theorem digs_pos {a : Nat} (h : 0 < a) : digs a = digs (a / 10) ++ [UInt8.ofNat (48 + a % 10)] := by rw [digs, dif_neg (by omega)]
theorem digs_zero : digs 0 = [] := by rw [digs, dif_pos rfl]
theorem digs_len : ∀ (k a : Nat), a < 10 ^ k → (digs a).length ≤ k
  | 0, a, h => by obtain rfl : a = 0 := by omega
                  rw [digs_zero]; simp
  | k + 1, a, h => by
    by_cases h0 : a = 0
    · subst h0; rw [digs_zero]; simp
    · rw [digs_pos (by omega), List.length_append]
      have := digs_len k (a / 10) (by rw [Nat.pow_succ] at h; omega)
      simp; omega
def mtx (a : Nat) : ByteArray := if a = 0 then sb [109, 48] else sb (109 :: digs a)
theorem sb_app (a b : List UInt8) : sb a ++ sb b = sb (a ++ b) := by
  apply ByteArray.ext
  simp [sb]
theorem sb_len (a : List UInt8) : (sb a).size = a.length := by simp [sb, ByteArray.size]

abbrev mB (a : Nat) (xs : List UInt8) : List UInt8 := mkL (fun _ => 1) (fun a _ => UInt8.ofNat a) a xs
abbrev mI (a : Nat) (xs : List Int) : List Int := mkL (fun _ => 1) (fun a _ => (a : Int)) a xs
abbrev mS (a : Nat) (xs : List ByteArray) : List ByteArray := mkL (fun _ => 1) (fun a _ => mtx a) a xs
abbrev mBS (a : Nat) (xs : List (List UInt8)) : List (List UInt8) := mkL List.length mB a xs
abbrev cW (w : Wri) : Nat := 1 + w.b.length
abbrev mW (a : Nat) (w : Wri) : Wri := ⟨a, mB (a + 1) w.b⟩
abbrev mWS (a : Nat) (xs : List Wri) : List Wri := mkL cW mW a xs
abbrev mF (a : Nat) (_ : Fau) : Fau := ⟨a, (a + 1 : Nat), (a + 2 : Nat)⟩
abbrev mFS (a : Nat) (xs : List Fau) : List Fau := mkL (fun _ => 3) mF a xs
abbrev mP (a : Nat) (_ : Pai) : Pai := ⟨mtx a, mtx (a + 1)⟩
abbrev mPS (a : Nat) (xs : List Pai) : List Pai := mkL (fun _ => 2) mP a xs
abbrev cN (x : Nod) : Nat := x.keys.length + x.vals.length + x.kids.length
abbrev mN (a : Nat) (x : Nod) : Nod := ⟨x.leaf, mS a x.keys, mS (a + x.keys.length) x.vals, mI (a + x.keys.length + x.vals.length) x.kids⟩
abbrev cFr (x : Fre) : Nat := 2 + x.x.keys.length + x.x.vals.length + x.x.kids.length
abbrev mFr (a : Nat) (x : Fre) : Fre := ⟨a, decide ((a + 1) % 3 = 0), mS (a + 2) x.x.keys, mS (a + 2 + x.x.keys.length) x.x.vals, mI (a + 2 + x.x.keys.length + x.x.vals.length) x.x.kids⟩
abbrev mFrS (a : Nat) (xs : List Fre) : List Fre := mkL cFr mFr a xs
abbrev cD (d : Dsk) : Nat := cnt List.length d.secs + cnt cW d.cache + 3 * d.faults.length
abbrev cT (t : Txn) : Nat := cD t.d + cnt cFr t.new
/-- Sizes. -/
abbrev zBS (xs : List (List UInt8)) : Nat := xs.length + cnt List.length xs
abbrev zWS (xs : List Wri) : Nat := xs.length + cnt (fun w : Wri => w.b.length) xs
abbrev zSS (xs : List ByteArray) : Nat := xs.length + cnt ByteArray.size xs
abbrev zN (x : Nod) : Nat := zSS x.keys + zSS x.vals + x.kids.length
abbrev zFrS (xs : List Fre) : Nat := xs.length + cnt (fun f : Fre => zN f.x) xs
abbrev zD (d : Dsk) : Nat := zBS d.secs + zWS d.cache + d.faults.length
abbrev zT (t : Txn) : Nat := zD t.d + zFrS t.new

/-! ### Bounds -/
structure OkD (d : Dsk) : Prop where
  secs : d.secs.length ≤ 10000000
  sec : ∀ x ∈ d.secs, x.length ≤ 10000000
  cache : d.cache.length ≤ 10000000
  wri : ∀ x ∈ d.cache, x.b.length ≤ 10000000
  faults : d.faults.length ≤ 10000000
structure OkN (x : Nod) : Prop where
  keys : x.keys.length ≤ 10000000
  vals : x.vals.length ≤ 10000000
  kids : x.kids.length ≤ 10000000
structure OkT (t : Txn) : Prop where
  d : OkD t.d
  new : t.new.length ≤ 10000000
  nod : ∀ f ∈ t.new, OkN f.x
structure BdN (x : Nod) : Prop where
  keys : x.keys.length ≤ 100000000000000
  key : ∀ s ∈ x.keys, s.size ≤ 1000000000000000
  vals : x.vals.length ≤ 100000000000000
  val : ∀ s ∈ x.vals, s.size ≤ 1000000000000000
  kids : x.kids.length ≤ 100000000000000
structure BdD (d : Dsk) : Prop where
  secs : d.secs.length ≤ 100000000000000
  sec : ∀ x ∈ d.secs, x.length ≤ 1000000000000000
  cache : d.cache.length ≤ 100000000000000
  wri : ∀ x ∈ d.cache, x.b.length ≤ 1000000000000000
  faults : d.faults.length ≤ 100000000000000
structure BdT (t : Txn) : Prop where
  d : BdD t.d
  new : t.new.length ≤ 100000000000000
  nod : ∀ f ∈ t.new, BdN f.x
theorem cnt_mem {α : Type} {c : α → Nat} : ∀ {xs : List α} {x : α}, x ∈ xs → c x ≤ cnt c xs
  | y :: xs, x, h => by
    rcases List.mem_cons.1 h with rfl | h
    · simp [cnt]
    · have := cnt_mem (c := c) h
      simp [cnt]; omega

end Go.Proofs.Ytacfohamlkbpjaa
