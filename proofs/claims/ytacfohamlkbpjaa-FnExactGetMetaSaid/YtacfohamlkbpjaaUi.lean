/- Lists of values as cells. -/
import Derived.Test.YtacfohamlkbpjaaUh
import Derived.IntWalk
namespace Go.Proofs.Ytacfohamlkbpjaa
open Go Go.RowKit Go.IntWalk

theorem closedL_all : ∀ l : List Cell, closedL l = l.all Cell.closed
  | [] => rfl
  | c :: l => by rw [closedL, closedL_all l]; rfl

theorem roifyL_map : ∀ l : List Cell, roifyL l = l.map Cell.roify
  | [] => rfl
  | c :: l => by rw [roifyL, roifyL_map l]; rfl

/-- How lists of values lie in memory, each value in `sz` cells. -/
class Enc (α : Type) where
  sz : Nat
  cs : Bool → List α → List Cell
  nil : ∀ o, cs o [] = []
  app : ∀ o xs ys, cs o (xs ++ ys) = cs o xs ++ cs o ys
  len : ∀ o x, (cs o [x]).length = sz
  shal : ∀ o x, (cs o [x]).all Cell.shal = true
  clo : ∀ o x, closedL (cs o [x]) = true
  ro : ∀ o x, roifyL (cs o [x]) = cs false [x]
  now : ∀ x, noOwn (cs false [x]) = true
  pu : ∀ x, pureL (cs true [x]) = true

open Enc (sz cs)

/-- A slice of these. -/
abbrev slE {α : Type} [Enc α] (o : Bool) (xs : List α) : Cell := .sl o xs.length (sz α) (cs o xs)
/-- A node that is one. -/
abbrev nE {α : Type} [Enc α] (xs : List α) : Option Node := some (true, cs true xs)
abbrev rE {α : Type} [Enc α] (id : Nat) (xs : List α) : TV := .v false [.ref id 0 xs.length (sz α)]

section
variable {α : Type} [Enc α] {o o' : Bool} {xs ys : List α} {i id : Nat}

theorem cs_cons (x : α) (xs : List α) : cs o (x :: xs) = cs o [x] ++ cs o xs := Enc.app o [x] xs

@[simp] theorem cs_len : ∀ xs : List α, (cs o xs).length = xs.length * sz α
  | [] => by rw [Enc.nil]; simp
  | x :: xs => by rw [cs_cons, List.length_append, Enc.len, cs_len xs, List.length_cons, Nat.succ_mul, Nat.add_comm]

@[simp] theorem cs_shal : ∀ xs : List α, (cs o xs).all Cell.shal = true
  | [] => by rw [Enc.nil]; rfl
  | x :: xs => by rw [cs_cons, List.all_append, Enc.shal, cs_shal xs]; rfl

@[simp] theorem cs_clo : ∀ xs : List α, closedL (cs o xs) = true
  | [] => by rw [Enc.nil]; rfl
  | x :: xs => by rw [cs_cons, closedL_append, Enc.clo, cs_clo xs]; rfl

@[simp] theorem cs_now : ∀ xs : List α, noOwn (cs false xs) = true
  | [] => by rw [Enc.nil]; rfl
  | x :: xs => by
    have h1 := Enc.now x
    have h2 := cs_now xs
    rw [cs_cons]
    unfold noOwn at *
    rw [List.all_append, h1, h2]; rfl

theorem pureL_app : ∀ a b : List Cell, pureL (a ++ b) = (pureL a && pureL b)
  | [], _ => rfl
  | c :: a, b => by simp [pureL, pureL_app a b, Bool.and_assoc]

@[simp] theorem cs_pure : ∀ xs : List α, pureL (cs true xs) = true
  | [] => by rw [Enc.nil]; rfl
  | x :: xs => by rw [cs_cons, pureL_app, Enc.pu, cs_pure xs]; rfl

@[simp] theorem cs_ro : ∀ xs : List α, roifyL (cs o xs) = cs false xs
  | [] => by rw [Enc.nil, Enc.nil]; rfl
  | x :: xs => by rw [cs_cons, cs_cons (o := false), roifyL_append, Enc.ro, cs_ro xs]

theorem cs_whole : ((cs o xs).drop 0).take (xs.length * sz α) = cs o xs := by
  rw [List.drop_zero, List.take_of_length_le (by rw [cs_len]; exact Nat.le_refl _)]

theorem cs_split (h : i < xs.length) : cs o xs = cs o (xs.take i) ++ cs o [xs[i]] ++ cs o (xs.drop (i + 1)) := by
  rw [← Enc.app, ← Enc.app]
  congr 1
  rw [List.append_assoc, List.singleton_append, List.getElem_cons_drop, List.take_append_drop]

theorem cs_take_len (h : i ≤ xs.length) : (cs o (xs.take i)).length = i * sz α := by rw [cs_len, List.length_take, Nat.min_eq_left h]

/-! ### Reading -/
theorem rd {s : Nat} (h : i < xs.length) (hs : sz α = s := by rfl) : ((cs o xs).drop (((i : Nat) : Int).toNat * s)).take s = cs o [xs[i]] := by
  subst hs
  rw [Int.toNat_natCast, cs_split h, List.append_assoc, List.drop_left' (cs_take_len (by omega)), List.take_left' (Enc.len o _)]

theorem ofs {i s : Nat} : 0 + ((i : Nat) : Int).toNat * s = i * s := by rw [Int.toNat_natCast, Nat.zero_add]

theorem cut_app : ∀ {A l : List Cell} {off n : Nat}, cut (A ++ l) (A.length + off) n = cut l off n
  | [], l, off, n => by simp
  | a :: A, l, off, 0 => by
    have e : ∀ (l : List Cell) (k : Nat), cut l k 0 = some [] := fun l k => by cases l <;> rfl
    rw [e, e]
  | a :: A, l, off, n + 1 => by
    rw [List.length_cons, Nat.add_right_comm]
    show cut (A ++ l) (A.length + off) (n + 1) = _
    exact cut_app

theorem cut_pre : ∀ {l C : List Cell} {off n : Nat}, off + n ≤ l.length → cut (l ++ C) off n = cut l off n
  | l, C, off, 0, _ => by
    have e : ∀ (l : List Cell) (k : Nat), cut l k 0 = some [] := fun l k => by cases l <;> rfl
    rw [e, e]
  | [], C, off, n + 1, h => by simp at h
  | a :: l, C, 0, n + 1, h => by
    show (cut (l ++ C) 0 n).map _ = (cut l 0 n).map _
    rw [cut_pre (by simp at h ⊢; omega)]
  | a :: l, C, off + 1, n + 1, h => by
    show cut (l ++ C) off (n + 1) = cut l off (n + 1)
    exact cut_pre (by simp at h ⊢; omega)

theorem cut_mid {A M C : List Cell} {p off n : Nat} (hp : p = A.length) (h : off + n ≤ M.length) : cut (A ++ M ++ C) (p + off) n = cut M off n := by
  rw [List.append_assoc, hp, cut_app, cut_pre h]

theorem put_app : ∀ {A l x : List Cell} {off : Nat}, put (A ++ l) (A.length + off) x = (put l off x).map (A ++ ·)
  | [], l, x, off => by
    simp
  | a :: A, l, x, off => by
    rw [List.length_cons, Nat.add_right_comm]
    show (put (A ++ l) (A.length + off) x).map (a :: ·) = _
    rw [put_app, Option.map_map]; rfl

theorem put_pre : ∀ {l C x r : List Cell} {off : Nat}, put l off x = some r → put (l ++ C) off x = some (r ++ C)
  | l, C, [], r, 0, h => by
    have h1 : some l = some r := by cases l <;> exact h
    obtain rfl := Option.some.inj h1
    cases l with
    | nil => cases C <;> rfl
    | cons a l => rfl
  | [], C, _ :: _, r, 0, h => by simp [put] at h
  | [], C, x, r, off + 1, h => by simp [put] at h
  | a :: l, C, x :: xs, r, 0, h => by
    obtain ⟨r', h1, rfl⟩ := Option.map_eq_some_iff.1 h
    show (put (l ++ C) 0 xs).map _ = _
    rw [put_pre h1]; rfl
  | a :: l, C, xs, r, off + 1, h => by
    obtain ⟨r', h1, rfl⟩ := Option.map_eq_some_iff.1 h
    show (put (l ++ C) off xs).map _ = _
    rw [put_pre h1]; rfl

theorem put_mid {A M C x r : List Cell} {p off : Nat} (hp : p = A.length) (h : put M off x = some r) : put (A ++ M ++ C) (p + off) x = some (A ++ r ++ C) := by
  rw [List.append_assoc, hp, put_app, put_pre h, List.append_assoc]; rfl

theorem cut_all : ∀ {l : List Cell} {n : Nat}, l.length = n → cut l 0 n = some l
  | [], 0, _ => rfl
  | a :: l, n + 1, h => by
    show (cut l 0 n).map _ = _
    rw [cut_all (by simpa using h)]; rfl
  | [], _ + 1, h => by simp at h
  | _ :: _, 0, h => by simp at h

theorem put_all : ∀ {l x : List Cell}, l.length = x.length → put l 0 x = some x
  | [], [], _ => rfl
  | a :: l, y :: x, h => by
    show (put l 0 x).map _ = _
    rw [put_all (by simpa using h)]; rfl
  | [], _ :: _, h => by simp at h
  | _ :: _, [], h => by simp at h

/-- A part of an element, out of memory. -/
theorem ct {s : Nat} (h : i < xs.length) {off n : Nat} (hn : off + n ≤ s) (hs : sz α = s := by rfl) : cut (cs o xs) (i * s + off) n = cut (cs o [xs[i]]) off n := by
  subst hs
  rw [cs_split h, cut_mid (cs_take_len (by omega)).symm (by rw [Enc.len]; exact hn)]

theorem ct0 {s : Nat} (h : i < xs.length) (hs : sz α = s := by rfl) : cut (cs o xs) (i * s) s = some (cs o [xs[i]]) := by
  subst hs
  rw [← Nat.add_zero (i * sz α), ct h (by omega), cut_all (Enc.len o _)]

/-- An element, into memory. -/
theorem pt0 {s : Nat} {c : List Cell} (h : i < xs.length) (y : α) (hc : c = cs o [y]) (hs : sz α = s := by rfl) : put (cs o xs) (i * s) c = some (cs o (xs.set i y)) := by
  subst hc hs
  have e : xs.set i y = xs.take i ++ [y] ++ xs.drop (i + 1) := by
    rw [List.set_eq_take_append_cons_drop, if_pos h]; simp
  rw [e, Enc.app, Enc.app, cs_split h, ← Nat.add_zero (i * sz α), put_mid (cs_take_len (by omega)).symm (put_all (by rw [Enc.len, Enc.len]))]

/-! ### Slices handed to a call, and back -/
theorem snc {s n : Nat} (hn : xs.length = n := by first | rfl | simp) (hs : sz α = s := by rfl) : 0 + n * s ≤ (cs o xs).length ∧ (((cs o xs).drop 0).take (n * s)).all Cell.shal = true := by
  subst hs hn
  rw [cs_whole, cs_len]; exact ⟨by omega, cs_shal xs⟩
theorem snr {s n : Nat} (hn : xs.length = n := by first | rfl | simp) (hs : sz α = s := by rfl) : roifyL (((cs o xs).drop 0).take (n * s)) = cs false xs := by subst hs hn; rw [cs_whole, cs_ro]
theorem owc {s n : Nat} (hn : xs.length = n := by first | rfl | simp) (hs : sz α = s := by rfl) : 0 = 0 ∧ (cs o xs).length = n * s ∧ (cs o xs).all Cell.shal = true := by subst hs hn; exact ⟨rfl, cs_len xs, cs_shal xs⟩
theorem exc {s n : Nat} (h : s ≠ 0) (hn : xs.length = n := by first | rfl | simp) (hs : sz α = s := by rfl) : 0 = 0 ∧ (cs o xs).length = n * s ∧ s ≠ 0 ∧ (cs o xs).all Cell.shal = true := by subst hs hn; exact ⟨rfl, cs_len xs, h, cs_shal xs⟩

/-! ### Appends -/
theorem apn {s n : Nat} {c : List Cell} (hc : c = cs o ys) (hn : xs.length = n := by first | rfl | simp) (hs : sz α = s := by rfl) : ((cs o xs).drop 0).take (n * s) ++ c = cs o (xs ++ ys) := by subst hc hs hn; rw [cs_whole, Enc.app]
omit [Enc α] in
theorem apl : xs.length + ys.length = (xs ++ ys).length := by simp
omit [Enc α] in
theorem apl1 {y : α} : xs.length + 1 = (xs ++ [y]).length := by simp
end

/-! ### Bytes, numbers, texts -/
instance : Enc UInt8 where
  sz := 1
  cs _ l := byteC l
  nil _ := rfl
  app _ xs ys := by simp [byteC]
  len _ _ := rfl
  shal _ _ := rfl
  clo _ _ := rfl
  ro _ _ := rfl
  now _ := rfl
  pu _ := rfl

instance : Enc Int where
  sz := 1
  cs _ l := l.map fun n => .prim (.int .i64 n)
  nil _ := rfl
  app _ xs ys := by simp
  len _ _ := rfl
  shal _ _ := rfl
  clo _ _ := rfl
  ro _ _ := rfl
  now _ := rfl
  pu _ := rfl

instance : Enc ByteArray where
  sz := 1
  cs _ l := l.map fun n => .prim (.string n)
  nil _ := rfl
  app _ xs ys := by simp
  len _ _ := rfl
  shal _ _ := rfl
  clo _ _ := rfl
  ro _ _ := rfl
  now _ := rfl
  pu _ := rfl

/-- Slices of slices. -/
instance (α : Type) [Enc α] : Enc (List α) where
  sz := 1
  cs o l := l.map fun x => slE o x
  nil _ := rfl
  app _ xs ys := by simp
  len _ _ := rfl
  shal _ _ := rfl
  clo o x := by
    show (closedL (cs o x) && true) = true
    rw [cs_clo]; rfl
  ro o x := by
    show [Cell.sl false x.length (sz α) (roifyL (cs o x))] = _
    rw [cs_ro]; rfl
  now _ := rfl
  pu x := by
    show (pureL (cs true x) && true) = true
    rw [cs_pure]; rfl

abbrev bl (s : ByteArray) : List UInt8 := s.data.toList
abbrev sb (b : List UInt8) : ByteArray := ⟨b.toArray⟩
theorem bl_sb (b : List UInt8) : bl (sb b) = b := by simp [bl]
theorem bl_len (s : ByteArray) : s.size = (bl s).length := by simp [bl]
theorem byteC_cs (b : List UInt8) : byteC b = cs false b := rfl
theorem strOf_cs {o : Bool} : ∀ {b : List UInt8}, strOf (cs o b) = some b
  | [] => rfl
  | x :: b => by
    show (strOf (cs o b)).map _ = _
    rw [strOf_cs]
    simp
theorem strOf_whole {o : Bool} {b : List UInt8} : strOf (((cs o b).drop 0).take (b.length * 1)) = some b := by
  have := cs_whole (o := o) (xs := b)
  rw [show b.length * 1 = b.length * sz UInt8 from rfl, this, strOf_cs]
theorem src_str {nd : Nat → Option Node} {s : ByteArray} : srcT nd 1 (.v false [.prim (.string s)]) = some ((bl s).length, cs true (bl s)) := by
  show some (s.size, byteC (bl s)) = _
  rw [bl_len]; rfl

section
variable {o : Bool} {s n m : Nat} {K : List Cell → Nat → Prop}
theorem apE {α : Type} [Enc α] {xs ys : List α} {c : List Cell} (h : K (cs o (xs ++ ys)) (xs ++ ys).length) (hc : c = cs o ys := by rfl) (hm : ys.length = m := by first | rfl | simp) (hn : xs.length = n := by first | rfl | simp) (hs : sz α = s := by rfl) :
    ∃ N', ((cs o xs).drop 0).take (n * s) ++ c = N' ∧ ∃ q, n + m = q ∧ K N' q := by
  subst hm hn
  exact ⟨_, apn hc rfl hs, _, apl, h⟩
theorem apB {xs : List UInt8} {b : UInt8} (h : K (cs o (xs ++ [b])) (xs ++ [b]).length) (hn : xs.length = n := by first | rfl | simp) (hs : sz UInt8 = s := by rfl) :
    ∃ N', ((cs o xs).drop 0).take (n * s) ++ [.prim (.int .u8 (b.toNat : Int))] = N' ∧ ∃ q, n + 1 = q ∧ K N' q := apE (ys := [b]) h rfl rfl hn hs
theorem apI {xs : List Int} {b : Int} (h : K (cs o (xs ++ [b])) (xs ++ [b]).length) (hn : xs.length = n := by first | rfl | simp) (hs : sz Int = s := by rfl) :
    ∃ N', ((cs o xs).drop 0).take (n * s) ++ [.prim (.int .i64 b)] = N' ∧ ∃ q, n + 1 = q ∧ K N' q := apE (ys := [b]) h rfl rfl hn hs
theorem apS {xs : List ByteArray} {b : ByteArray} (h : K (cs o (xs ++ [b])) (xs ++ [b]).length) (hn : xs.length = n := by first | rfl | simp) (hs : sz ByteArray = s := by rfl) :
    ∃ N', ((cs o xs).drop 0).take (n * s) ++ [.prim (.string b)] = N' ∧ ∃ q, n + 1 = q ∧ K N' q := apE (ys := [b]) h rfl rfl hn hs
end

theorem tf (h : true = false) : False := by cases h
theorem ft (h : false = true) : False := by cases h
theorem tvi {a b : Int} (h : a = b) : TV.v false [.prim (.int .i64 a)] = TV.v false [.prim (.int .i64 b)] := by rw [h]
theorem tvr {id off s a b : Nat} (h : a = b) : TV.v false [.ref id off a s] = TV.v false [.ref id off b s] := by rw [h]

/-- An own node moves into a node that leads to it. -/
theorem w_inl {n : Nat} {t h nx tn} (i j : Nat) (A C : List Cell) {c s' : Nat} {cs0 cs1 cs : List Cell} (hij : Nat.beq i j = false) (hi : look none h i = some (true, cs0)) (h1 : cs0 = A ++ [.ref j 0 c s'] ++ C) (h2 : A ++ [.sl true c s' cs] ++ C = cs1)
    (hj : look none h j = some (true, cs)) (hs : cs.all Cell.shal = true) (hl : cs.length = c * s') (hsz : s' ≠ 0) :
    WGh n ⟨t, h, nx, tn⟩ ⟨t, (i, some (true, cs1)) :: (j, none) :: h, nx, tn⟩ := by
  subst h1 h2
  exact w_inline i j (fun e => by subst e; simp at hij) hi hj hs hl hsz

/-- What lies within a node, as a node of its own. -/
theorem w_out {n : Nat} {t h nx tn} (i : Nat) (A C : List Cell) {c s' : Nat} {cs0 cs1 cs : List Cell} (hi : look none h i = some (true, cs0)) (h1 : cs0 = A ++ [.sl true c s' cs] ++ C) (h2 : A ++ [.ref nx 0 c s'] ++ C = cs1) :
    WGh n ⟨t, h, nx, tn⟩ ⟨t, (nx, some (true, cs)) :: (i, some (true, cs1)) :: h, nx + 1, tn⟩ := by
  subst h1 h2
  exact w_drawOut i hi

theorem w_inE {α : Type} [Enc α] {n : Nat} {t h nx tn} (i j : Nat) (A : List Cell) (xs : List α) (C : List Cell) (k s : Nat) {cs0 cs1 : List Cell} (h2 : A ++ [slE true xs] ++ C = cs1) (hij : Nat.beq i j = false := by rfl) (hi : look none h i = some (true, cs0) := by rfl) (hj : look none h j = some (true, cs true xs) := by rfl)
    (h1 : cs0 = A ++ [.ref j 0 k s] ++ C := by first | rfl | simp) (hk : xs.length = k := by first | rfl | simp) (hs : sz α = s := by rfl) (hz : s ≠ 0 := by decide) :
    WGh n ⟨t, h, nx, tn⟩ ⟨t, (i, some (true, cs1)) :: (j, none) :: h, nx, tn⟩ := by
  subst hk hs
  exact w_inl i j A C hij hi h1 h2 hj (cs_shal xs) (cs_len xs) hz

theorem w_outE {α : Type} [Enc α] {n : Nat} {t h nx tn} (i : Nat) (A : List Cell) (xs : List α) (C : List Cell) (s : Nat) {cs0 : List Cell} {cs1 : List Cell} (hi : look none h i = some (true, cs0) := by rfl) (h1 : cs0 = A ++ [slE true xs] ++ C := by first | rfl | simp) (h2 : A ++ [.ref nx 0 xs.length s] ++ C = cs1 := by rfl) (hs : sz α = s := by rfl) :
    WGh n ⟨t, h, nx, tn⟩ ⟨t, (nx, some (true, cs true xs)) :: (i, some (true, cs1)) :: h, nx + 1, tn⟩ := by
  subst hs
  exact w_out i A C hi h1 h2

theorem bstep {n : Nat} {τ τ' : W} {Q : W → Prop} (h : WGh n τ τ') (hq : ∃ τ1, WGh n τ' τ1 ∧ Q τ1) : ∃ τ1, WGh n τ τ1 ∧ Q τ1 := by
  obtain ⟨τ1, h1, h2⟩ := hq
  exact ⟨τ1, h.trans h1, h2⟩
@[simp] theorem sz_u8 : sz UInt8 = 1 := rfl
@[simp] theorem sz_int : sz Int = 1 := rfl
@[simp] theorem sz_str : sz ByteArray = 1 := rfl
@[simp] theorem sz_list {α : Type} [Enc α] : sz (List α) = 1 := rfl

theorem cutA {A C : List Cell} {c : Cell} {p : Nat} (hp : p = A.length) : cut (A ++ [c] ++ C) p 1 = some [c] := by
  rw [← Nat.add_zero p, cut_mid hp (by simp)]; rfl

theorem cutM {A M C l : List Cell} {p n : Nat} (off : Nat) (hp : p = A.length + off) (h : cut M off n = some l) (hl : Nat.ble (off + n) M.length = true := by rfl) : cut (A ++ M ++ C) p n = some l := by
  subst hp; rw [cut_mid rfl (Nat.le_of_ble_eq_true hl), h]
theorem putM {A M C x r : List Cell} {p : Nat} (off : Nat) (hp : p = A.length + off) (h : put M off x = some r) : put (A ++ M ++ C) p x = some (A ++ r ++ C) := by
  subst hp; rw [put_mid rfl h]

/-! ### A list in the midst of being turned -/
section
variable {α : Type} [Enc α] {A xs : List α} {i : Nat}
theorem mid (hA : A.length = i) (h : i < xs.length) : cs true (A ++ xs.drop i) = cs true A ++ cs true [xs[i]] ++ cs true (xs.drop (i + 1)) := by
  rw [List.drop_eq_getElem_cons h, Enc.app, cs_cons, List.append_assoc]
theorem midp {s off : Nat} {c r : List Cell} (h : i < xs.length) (hA : A.length = i) (hp : put (cs true [xs[i]]) off c = some r) (hs : sz α = s := by rfl) : put (cs true (A ++ xs.drop i)) (i * s + off) c = some (cs true A ++ r ++ cs true (xs.drop (i + 1))) := by
  subst hs
  rw [mid hA h, put_mid (by rw [cs_len, hA]) hp]
theorem midq {s off : Nat} {c r M C : List Cell} (hA : A.length = i) (hp : put M off c = some r) (hs : sz α = s := by rfl) : put (cs true A ++ M ++ C) (i * s + off) c = some (cs true A ++ r ++ C) := by
  subst hs
  rw [put_mid (by rw [cs_len, hA]) hp]
theorem midc0 {s n : Nat} {M C l : List Cell} (hA : A.length = i) (hl : n ≤ M.length) (hp : cut M 0 n = some l) (hs : sz α = s := by rfl) : cut (cs true A ++ M ++ C) (i * s) n = some l := by
  subst hs
  rw [← Nat.add_zero (i * sz α), cut_mid (by rw [cs_len, hA]) (by omega), hp]
theorem midc {s off n : Nat} {M C l : List Cell} (hA : A.length = i) (hl : off + n ≤ M.length) (hp : cut M off n = some l) (hs : sz α = s := by rfl) : cut (cs true A ++ M ++ C) (i * s + off) n = some l := by
  subst hs
  rw [cut_mid (by rw [cs_len, hA]) hl, hp]
end

end Go.Proofs.Ytacfohamlkbpjaa
