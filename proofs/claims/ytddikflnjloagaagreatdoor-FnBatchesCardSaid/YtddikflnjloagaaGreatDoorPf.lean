/- What the law comes to: functions of the program, each with what it gives back, and the plain facts behind them. -/
import Derived.IntWalk
import Derived.Test.YtddikflnjloagaaGreatDoorChecked
import Derived.Test.YtddikflnjloagaaGreatDoorPe
namespace Go.Proofs.YtddikflnjloagaaGreatDoor

section
open Go Go.RowKit Go.IntWalk

open Enc (sz cs)

/-- A number, read byte by byte: which, and how many bytes it has. -/
def dU (k n : Nat) : Nat → List UInt8 → Nat × Nat × Bool
  | 0, _ => (0, 0, false)
  | _ + 1, [] => (0, 0, false)
  | f + 1, x :: r => if 128 ≤ x.toNat then dU (k + 1) (n + x.toNat % 128 * 2 ^ (7 * k)) f r
    else if (x.toNat = 0 ∧ 0 < k) ∨ 1000000 < n + x.toNat % 128 * 2 ^ (7 * k) then (0, 0, false) else (n + x.toNat % 128 * 2 ^ (7 * k), k + 1, true)

theorem u8_of {x : UInt8} {n : Nat} (h : n = x.toNat) : UInt8.ofNat n = x := by subst h; simp

theorem dU_inv {l : List UInt8} {n c : Nat} (h : dU 0 0 3 l = (n, c, true)) : n ≤ 1000000 ∧ ∃ r, l = uenc n ++ r ∧ c = (uenc n).length := by
  match l with
  | [] => simp [dU] at h
  | x :: l1 =>
    have hx := u8_lt x
    rw [dU] at h
    split at h
    · rename_i hx1
      match l1 with
      | [] => simp [dU] at h
      | y :: l2 =>
        have hy := u8_lt y
        rw [dU] at h
        split at h
        · rename_i hy1
          match l2 with
          | [] => simp [dU] at h
          | z :: l3 =>
            have hz := u8_lt z
            rw [dU] at h
            split at h
            · simp [dU] at h
            · rename_i hz1
              split at h
              · simp at h
              · rename_i hc
                simp only [Prod.mk.injEq, and_true, Nat.reduceMul, Nat.reducePow, Nat.reduceAdd, Nat.mul_zero, Nat.pow_zero, Nat.mul_one, Nat.zero_add] at h hc
                obtain ⟨rfl, rfl⟩ := h
                refine ⟨by omega, l3, ?_⟩
                rw [uenc_big (by omega), uenc_big (by omega), uenc_small (by omega), u8_of (x := x) (by omega), u8_of (x := y) (by omega), u8_of (x := z) (by omega)]
                exact ⟨rfl, rfl⟩
        · rename_i hy1
          split at h
          · simp at h
          · rename_i hc
            simp only [Prod.mk.injEq, and_true, Nat.reducePow, Nat.reduceAdd, Nat.mul_zero, Nat.pow_zero, Nat.mul_one, Nat.zero_add] at h hc
            obtain ⟨rfl, rfl⟩ := h
            refine ⟨by omega, l2, ?_⟩
            rw [uenc_big (by omega), uenc_small (by omega), u8_of (x := x) (by omega), u8_of (x := y) (by omega)]
            exact ⟨rfl, rfl⟩
    · rename_i hx1
      split at h
      · simp at h
      · rename_i hc
        simp only [Prod.mk.injEq, and_true, Nat.mul_zero, Nat.pow_zero, Nat.mul_one, Nat.zero_add] at h hc
        obtain ⟨rfl, rfl⟩ := h
        refine ⟨by omega, l1, ?_⟩
        rw [uenc_small (by omega), u8_of (x := x) (by omega)]
        exact ⟨rfl, rfl⟩

theorem dU_enc {n : Nat} (h : n ≤ 1000000) (r : List UInt8) : dU 0 0 3 (uenc n ++ r) = (n, (uenc n).length, true) := by
  by_cases h1 : n ≤ 127
  · rw [uenc_small h1, List.singleton_append, dU, if_neg (by simp; omega), if_neg (by simp; omega)]
    simp; omega
  · rw [uenc_big h1, List.cons_append, dU, if_pos (by simp; omega)]
    by_cases h2 : n / 128 ≤ 127
    · rw [uenc_small h2, List.singleton_append, dU, if_neg (by simp; omega), if_neg (by simp; omega)]
      simp; omega
    · rw [uenc_big h2, List.cons_append, dU, if_pos (by simp; omega)]
      rw [uenc_small (by omega), List.singleton_append, dU, if_neg (by simp; omega), if_neg (by simp; omega)]
      simp; omega

/-- A number at a place: which, and where it ends. -/
def gU (b : List UInt8) (p : Int) : Nat × Nat × Bool :=
  if 0 ≤ p then match dU 0 0 3 (b.drop p.toNat) with
    | (n, c, true) => (n, p.toNat + c, true)
    | _ => (0, 0, false)
  else (0, 0, false)

/-- A text at a place. -/
def gT (b : List UInt8) (p : Int) : List UInt8 × Nat × Bool :=
  match gU b p with
  | (n, q, true) => if n ≤ b.length - q then ((b.drop q).take n, q + n, true) else ([], 0, false)
  | _ => ([], 0, false)

theorem gU_bad {b : List UInt8} {p : Int} (h : (gU b p).2.2 = false) : gU b p = (0, 0, false) := by
  by_cases h1 : 0 ≤ p
  · unfold gU at *
    rw [if_pos h1] at *
    revert h
    split
    · intro h; simp at h
    · intro _; rfl
  · unfold gU; rw [if_neg h1]

theorem gU_ok {b : List UInt8} {p : Int} (h : (gU b p).2.2 = true) : 0 ≤ p ∧ (gU b p).1 ≤ 1000000 ∧ ∃ r, b.drop p.toNat = uenc (gU b p).1 ++ r ∧ (gU b p).2.1 = p.toNat + (uenc (gU b p).1).length := by
  unfold gU at *
  split at h
  · rename_i h1
    split at h
    · rename_i n c e
      obtain ⟨h2, r, h3, h4⟩ := dU_inv e
      simp only [if_pos h1]
      exact ⟨h1, h2, r, h3, by omega⟩
    · simp at h
  · simp at h

theorem gU_le {b : List UInt8} {p : Int} (h : (gU b p).2.2 = true) : (gU b p).2.1 ≤ b.length ∧ p.toNat < (gU b p).2.1 := by
  obtain ⟨h1, h2, r, h3, h4⟩ := gU_ok h
  have h5 := congrArg List.length h3
  have := uenc_pos (gU b p).1
  simp at h5
  omega

theorem gU_small (b : List UInt8) (p : Int) : (gU b p).1 ≤ 1000000 ∧ (gU b p).2.1 ≤ b.length := by
  cases h : (gU b p).2.2 with
  | true => exact ⟨(gU_ok h).2.1, (gU_le h).1⟩
  | false => rw [gU_bad h]; simp

theorem gT_ok {b : List UInt8} {p : Int} (h : (gT b p).2.2 = true) : (gU b p).2.2 = true ∧ (gU b p).1 ≤ b.length - (gU b p).2.1 ∧ gT b p = ((b.drop (gU b p).2.1).take (gU b p).1, (gU b p).2.1 + (gU b p).1, true) := by
  unfold gT at *
  split at h
  · rename_i n q e
    rw [e]
    split at h
    · rename_i h1; exact ⟨rfl, h1, by simp only [if_pos h1]⟩
    · simp at h
  · simp at h
end

section
open Go Go.RowKit Go.IntWalk

open Enc (sz cs)

theorem cs_drop0 {α : Type} [Enc α] {o : Bool} {xs : List α} {a n : Nat} (h : a + n ≤ xs.length) : ((cs o xs).drop (a * sz α)).take (n * sz α) = cs o ((xs.drop a).take n) := by
  have e : xs = xs.take a ++ ((xs.drop a).take n ++ (xs.drop a).drop n) := by rw [List.take_append_drop, List.take_append_drop]
  conv => lhs; rw [e, Enc.app, Enc.app]
  rw [List.drop_left' (by rw [cs_len, List.length_take, Nat.min_eq_left (by omega)]), List.take_left' (by rw [cs_len, List.length_take, List.length_drop, Nat.min_eq_left (by omega)])]

theorem sl_ro {α : Type} [Enc α] {xs : List α} {a n m s : Nat} (h : a + n ≤ xs.length) (hm : xs.length = m := by first | rfl | simp) (hs : sz α = s := by rfl) : sliceT (.sl false m s (cs false xs)) s a (a + n) = some (.sl false ((xs.drop a).take n).length s (cs false ((xs.drop a).take n))) := by
  subst hm hs
  have := cs_drop0 (o := false) h
  simp only [sliceT]
  rw [if_pos (Nat.le_add_right a n), if_pos ⟨h, trivial⟩, show a + n - a = n by omega, this, List.length_take, List.length_drop, Nat.min_eq_left (by omega)]

theorem sl_to {α : Type} [Enc α] {xs : List α} {n m s : Nat} (h : n ≤ xs.length) (hm : xs.length = m := by first | rfl | simp) (hs : sz α = s := by rfl) : sliceT (.sl false m s (cs false xs)) s 0 n = some (.sl false (xs.take n).length s (cs false (xs.take n))) := by
  have := sl_ro (a := 0) (n := n) (by omega) hm hs
  simpa using this

theorem sl_from {α : Type} [Enc α] {xs : List α} {a m s : Nat} (h : a ≤ xs.length) (hm : xs.length = m := by first | rfl | simp) (hs : sz α = s := by rfl) : sliceT (.sl false m s (cs false xs)) s a m = some (.sl false (xs.drop a).length s (cs false (xs.drop a))) := by
  have := sl_ro (a := a) (n := m - a) (by omega) hm hs
  rw [show a + (m - a) = m by omega] at this
  rw [this, List.take_of_length_le (by simp; omega)]

theorem bndN {d n : Nat} {k : IntKind} : boundT d (some (.v false [.prim (.int k (n : Int))])) = some n := by
  simp only [boundT]; rw [if_pos (by omega)]; simp

theorem srcO {α : Type} [Enc α] {nd : Nat → Option Node} {id n s : Nat} {o : Bool} {xs : List α} (hnd : nd id = some (o, cs true xs)) (hf : cs true xs = cs false xs) (hn : xs.length = n := by first | rfl | simp) (hs : sz α = s := by rfl) :
    srcT nd s (.v false [.ref id 0 n s]) = some (n, cs true xs) := by
  subst hn hs
  have h2 : (((cs true xs).drop 0).take (xs.length * sz α)).all (fun c => !c.own?) = true := by
    rw [cs_whole, hf]; exact cs_now xs
  simp only [srcT, hnd]
  rw [if_pos ⟨trivial, by rw [cs_len]; omega, h2⟩, cs_whole]

theorem bct {b : Bool} (h : b = false) (h2 : b = true) : False := by subst h; cases h2

def inB (n l h : Int) : Bool := decide (l ≤ n) && decide (n ≤ h)

theorem inB_iff {n l h : Int} : inB n l h = true ↔ l ≤ n ∧ n ≤ h := by simp [inB]

theorem uenc_inj {n m : Nat} {r r' : List UInt8} (hn : n ≤ 1000000) (hm : m ≤ 1000000) (h : uenc n ++ r = uenc m ++ r') : n = m ∧ r = r' := by
  have h1 := dU_enc hn r
  rw [h, dU_enc hm r'] at h1
  have h2 : m = n := congrArg Prod.fst h1
  subst h2
  exact ⟨rfl, List.append_cancel_left h⟩
end

section
open Go Go.RowKit Go.IntWalk

open Enc (sz cs)

/-! ### Sectors -/

/-! ### Nodes as bytes -/

abbrev ptX (s : ByteArray) : List UInt8 := uenc (clN (bl s).length) ++ bl s

abbrev ptI (n : Int) : List UInt8 := uenc (clN n)

def fm {α : Type} (f : α → List UInt8) (l : List α) : List UInt8 := l.flatMap f

theorem fm_nil {α : Type} {f : α → List UInt8} : fm f [] = [] := rfl

theorem fm_app {α : Type} {f : α → List UInt8} {a b : List α} : fm f (a ++ b) = fm f a ++ fm f b := List.flatMap_append

theorem fm_cons {α : Type} {f : α → List UInt8} {a : α} {b : List α} : fm f (a :: b) = f a ++ fm f b := List.flatMap_cons

theorem fm_snoc {α : Type} {f : α → List UInt8} {a : List α} {x : α} : fm f (a ++ [x]) = fm f a ++ f x := by rw [fm_app, fm_cons, fm_nil, List.append_nil]

theorem ptX_len2 {s : ByteArray} : s.size < (ptX s).length := by
  have := uenc_pos (clN (bl s).length)
  have h2 := bl_len s
  simp only [ptX, List.length_append]; omega

theorem fmX_len2 : ∀ {l : List ByteArray}, l.length + cnt ByteArray.size l ≤ (fm ptX l).length
  | [] => by simp [cnt]
  | x :: l => by
    have h1 := ptX_len2 (s := x)
    have h2 := fmX_len2 (l := l)
    rw [fm_cons, List.length_append, List.length_cons]; simp only [cnt]; omega

theorem fmI_len2 : ∀ {l : List Int}, l.length ≤ (fm ptI l).length
  | [] => by simp
  | x :: l => by
    have h1 := uenc_pos (clN x)
    have h2 := fmI_len2 (l := l)
    rw [fm_cons, List.length_append, List.length_cons]; simp only [ptI]; omega

/-- What stands ahead of a node's keys. -/
abbrev hdN (leaf : Bool) (n : Int) : List UInt8 := [if leaf then 1 else 0] ++ uenc (clN n)

/-- A node as bytes, right or not. -/
def bdN (x : Nod) : List UInt8 := hdN x.leaf x.keys.length ++ fm ptX x.keys ++ (if x.leaf then fm ptX x.vals else fm ptI x.kids)

/-- A node is right. -/
structure NodOk (x : Nod) : Prop where
  key : ∀ i (h : i < x.keys.length), x.keys[i].size ≤ 48 ∧ (0 < i → Op.bytesLess x.keys[i - 1].toList x.keys[i].toList = true)
  size : (bdN x).length ≤ 240
  val : x.leaf = true → ∀ i (h : i < x.vals.length), x.vals[i].size ≤ 60
  leaf : x.leaf = true → 1 ≤ x.keys.length ∧ x.vals.length = x.keys.length ∧ x.kids = []
  kid : x.leaf = false → ∀ i (h : i < x.kids.length), 2 ≤ x.kids[i] ∧ x.kids[i] ≤ 47
  inner : x.leaf = false → 1 ≤ x.kids.length ∧ x.keys.length + 1 = x.kids.length ∧ x.vals = []

theorem NodOk.small {x : Nod} (h : NodOk x) : zN x ≤ 240 := by
  have h1 := h.size
  have h2 := fmX_len2 (l := x.keys)
  have h3 := fmX_len2 (l := x.vals)
  have h4 := fmI_len2 (l := x.kids)
  have h5 := uenc_pos (clN x.keys.length)
  unfold bdN hdN at h1
  unfold zN zSS
  cases hl : x.leaf with
  | true =>
    obtain ⟨_, _, e⟩ := h.leaf hl
    rw [hl] at h1
    simp only [List.length_append, List.length_cons, List.length_nil, if_true] at h1
    rw [e] at h4 ⊢; simp at h4 ⊢; omega
  | false =>
    obtain ⟨_, _, e⟩ := h.inner hl
    rw [hl] at h1
    simp only [List.length_append, List.length_cons, List.length_nil] at h1
    rw [e] at h3 ⊢; simp [cnt] at h1 h3 ⊢; omega

/-! ### Bytes that begin alike -/

theorem uenc_pre {a b : Nat} (ha : a ≤ 1000000) (hb : b ≤ 1000000) {r s : List UInt8} (h : uenc a ++ r = uenc b ++ s) : a = b ∧ r = s := uenc_inj ha hb h

theorem ptX_pre {x y : ByteArray} (hx : x.size ≤ 1000000) (hy : y.size ≤ 1000000) {r s : List UInt8} (h : ptX x ++ r = ptX y ++ s) : x = y ∧ r = s := by
  have ex := bl_len x
  have ey := bl_len y
  simp only [ptX, List.append_assoc] at h
  obtain ⟨h1, h2⟩ := uenc_pre (clN_le _) (clN_le _) h
  rw [clN_nat (by omega), clN_nat (by omega)] at h1
  obtain ⟨h3, h4⟩ := List.append_inj h2 h1
  refine ⟨?_, h4⟩
  apply ByteArray.ext
  exact Array.toList_inj.1 h3

theorem ptI_pre {x y : Int} (hx : 0 ≤ x ∧ x ≤ 1000000) (hy : 0 ≤ y ∧ y ≤ 1000000) {r s : List UInt8} (h : ptI x ++ r = ptI y ++ s) : x = y ∧ r = s := by
  obtain ⟨h1, h2⟩ := uenc_pre (clN_le _) (clN_le _) h
  have e1 := clN_int hx
  have e2 := clN_int hy
  exact ⟨by rw [← e1, ← e2, h1], h2⟩

theorem fm_pre {α : Type} {f : α → List UInt8} {Q : α → Prop} (hf : ∀ x y r s, Q x → Q y → f x ++ r = f y ++ s → x = y ∧ r = s) : ∀ {a b : List α} {r s : List UInt8}, (∀ x ∈ a, Q x) → (∀ x ∈ b, Q x) → a.length ≤ b.length → fm f a ++ r = fm f b ++ s → a = b.take a.length ∧ r = fm f (b.drop a.length) ++ s
  | [], b, r, s, _, _, _, h => ⟨by simp, by simpa [fm_nil] using h⟩
  | x :: a, [], r, s, _, _, hl, h => by simp at hl
  | x :: a, y :: b, r, s, ha, hb, hl, h => by
    rw [fm_cons, fm_cons, List.append_assoc, List.append_assoc] at h
    obtain ⟨rfl, h2⟩ := hf x y _ _ (ha x (by simp)) (hb y (by simp)) h
    obtain ⟨h3, h4⟩ := fm_pre hf (fun x hx => ha x (by simp [hx])) (fun x hx => hb x (by simp [hx])) (by simpa using hl) h2
    exact ⟨by rw [List.length_cons, List.take_succ_cons, ← h3], by simpa using h4⟩

theorem fmX_pre {a b : List ByteArray} {r s : List UInt8} (ha : ∀ x ∈ a, x.size ≤ 1000000) (hb : ∀ x ∈ b, x.size ≤ 1000000) (hl : a.length ≤ b.length) (h : fm ptX a ++ r = fm ptX b ++ s) : a = b.take a.length ∧ r = fm ptX (b.drop a.length) ++ s :=
  fm_pre (Q := fun x => x.size ≤ 1000000) (fun _ _ _ _ hx hy h => ptX_pre hx hy h) ha hb hl h

theorem fmI_pre {a b : List Int} {r s : List UInt8} (ha : ∀ x ∈ a, 0 ≤ x ∧ x ≤ 1000000) (hb : ∀ x ∈ b, 0 ≤ x ∧ x ≤ 1000000) (hl : a.length ≤ b.length) (h : fm ptI a ++ r = fm ptI b ++ s) : a = b.take a.length ∧ r = fm ptI (b.drop a.length) ++ s :=
  fm_pre (Q := fun x : Int => 0 ≤ x ∧ x ≤ 1000000) (fun _ _ _ _ hx hy h => ptI_pre hx hy h) ha hb hl h

/-! ### What holds of all -/

theorem all_suc {n i : Nat} {C : (j : Nat) → j < n → Prop} (h : ∀ j (hj : j < n), j < i → C j hj) (hi : i < n) (hc : C i hi) : ∀ j (hj : j < n), j < i + 1 → C j hj := by
  intro j hj hlt
  by_cases e : j = i
  · subst e; exact hc
  · exact h j hj (by omega)

theorem inB_no {n l h : Int} : inB n l h = false ↔ ¬ (l ≤ n ∧ n ≤ h) := by
  rw [← inB_iff]; cases inB n l h <;> simp

/-! ### Appends, one by one -/

section

variable {α : Type} [Enc α] {o : Bool} {xs : List α} {i : Nat}

theorem tk1 {c : List Cell} (h : i < xs.length) (hc : c = cs o [xs[i]]) : cs o (xs.take i) ++ c ++ [] = cs o (xs.take (i + 1)) := by rw [fil h hc, List.append_nil]

/-- Something put behind, as it lies. -/
theorem apR {N : List Cell} {n m s : Nat} {K : List Cell → Nat → Prop} (h : K (cs o xs ++ N) (n + m)) (hn : xs.length = n := by first | rfl | (simp; done) | (simp; omega)) (hs : sz α = s := by rfl) : ∃ N', ((cs o xs).drop 0).take (n * s) ++ N = N' ∧ ∃ q, n + m = q ∧ K N' q := by
  subst hn hs
  exact ⟨_, rfl, _, rfl, by rw [cs_whole]; exact h⟩

end

/-! ### What leads to nothing -/

section

variable {o : Bool}

end
end

section
open Go Go.RowKit Go.IntWalk

open Enc (sz cs)

/-! ### Bounds -/

theorem OkD.of {d : Dsk} (h : zD d ≤ 2000000) : OkD d := by
  unfold zD zBS zWS at h
  refine ⟨by omega, fun x hx => ?_, by omega, fun x hx => ?_, by omega⟩
  · have := cnt_mem (c := List.length) hx; omega
  · have := cnt_mem (c := fun w : Wri => w.b.length) hx; omega

theorem OkN.of {x : Nod} (h : zN x ≤ 2000000) : OkN x := by
  unfold zN zSS at h
  exact ⟨by omega, by omega, by omega⟩

theorem OkT.of {t : Txn} (h : zT t ≤ 2000000) : OkT t := by
  unfold zT at h
  refine ⟨.of (by omega), by unfold zFrS at h; omega, fun f hf => .of ?_⟩
  have := cnt_mem (c := fun f : Fre => zN f.x) hf
  unfold zFrS at h; omega
end

section
open Go Go.RowKit Go.IntWalk

open Enc (sz cs)

theorem ptX_sb (b : List UInt8) : ptX (sb b) = uenc (clN b.length) ++ b := by simp [ptX, bl]

/-- A text that is read: what is behind it. -/
theorem gT_step {b : List UInt8} {p : Nat} (h : (gT b p).2.2 = true) : b.drop p = ptX (sb (gT b p).1) ++ b.drop (gT b p).2.1 ∧ (gT b p).1.length ≤ b.length ∧ p ≤ (gT b p).2.1 ∧ (gT b p).2.1 ≤ b.length ∧ (gT b p).1.length ≤ 1000000 := by
  obtain ⟨h1, h2, h3⟩ := gT_ok h
  obtain ⟨_, h4, r, h5, h6⟩ := gU_ok h1
  obtain ⟨h7, h8⟩ := gU_le h1
  rw [Int.toNat_natCast] at h5 h6 h8
  rw [h3]
  generalize gU b (p : Int) = g at *
  have e1 : ((b.drop g.2.1).take g.1).length = g.1 := by simp; omega
  refine ⟨?_, by dsimp only; omega, by dsimp only; omega, by dsimp only; omega, by dsimp only; omega⟩
  dsimp only
  rw [ptX_sb, e1, clN_nat h4, h5, List.append_assoc, ← List.drop_drop, List.take_append_drop, h6, ← List.drop_drop, h5, List.drop_left]

theorem gU_step {b : List UInt8} {p : Nat} (h : (gU b p).2.2 = true) : b.drop p = uenc (gU b p).1 ++ b.drop (gU b p).2.1 ∧ p ≤ (gU b p).2.1 ∧ (gU b p).2.1 ≤ b.length := by
  obtain ⟨_, h4, r, h5, h6⟩ := gU_ok h
  obtain ⟨h7, h8⟩ := gU_le h
  rw [Int.toNat_natCast] at h5 h6 h8
  refine ⟨?_, by omega, h7⟩
  rw [h6, ← List.drop_drop, h5, List.drop_left]

/-! ### What a node's bytes tell -/

theorem hdN_uenc (l : Bool) (n : Int) : hdN l n = uenc (if l then 1 else 0) ++ uenc (clN n) := by
  cases l with
  | true => rw [if_pos rfl, uenc_small (by omega)]; rfl
  | false => rw [if_neg (by simp), uenc_small (by omega)]; rfl

theorem NodOk.klen {x : Nod} (h : NodOk x) : x.keys.length ≤ 240 := by
  have := h.small; unfold zN zSS at this; omega

theorem NodOk.ksz {x : Nod} (h : NodOk x) : ∀ s ∈ x.keys, s.size ≤ 1000000 := fun s hs => by
  have := h.small
  have h2 := cnt_mem (c := ByteArray.size) hs
  unfold zN zSS at this; omega

theorem NodOk.vsz {x : Nod} (h : NodOk x) : ∀ s ∈ x.vals, s.size ≤ 1000000 := fun s hs => by
  have := h.small
  have h2 := cnt_mem (c := ByteArray.size) hs
  unfold zN zSS at this; omega

theorem NodOk.kid2 {x : Nod} (h : NodOk x) : ∀ k ∈ x.kids, 2 ≤ k ∧ k ≤ 47 := fun k hk => by
  cases hl : x.leaf with
  | true => obtain ⟨_, _, e⟩ := h.leaf hl; rw [e] at hk; cases hk
  | false =>
    obtain ⟨i, hi, rfl⟩ := List.getElem_of_mem hk
    exact h.kid hl i hi

theorem NodOk.kid1 {x : Nod} (h : NodOk x) : ∀ k ∈ x.kids, 0 ≤ k ∧ k ≤ 1000000 := fun k hk => by have := h.kid2 k hk; omega

theorem hd_eq {x : Nod} {l : Bool} {n : Nat} {r : List UInt8} (hn : n ≤ 1000000) (hk : x.keys.length ≤ 1000000) (h : bdN x = hdN l n ++ r) : x.leaf = l ∧ x.keys.length = n ∧ r = fm ptX x.keys ++ (if x.leaf then fm ptX x.vals else fm ptI x.kids) := by
  unfold bdN at h
  rw [hdN_uenc, hdN_uenc, List.append_assoc, List.append_assoc, List.append_assoc] at h
  obtain ⟨h1, h2⟩ := uenc_inj (by split <;> omega) (by split <;> omega) h
  rw [clN_nat hk, clN_nat hn] at h2
  obtain ⟨h3, h4⟩ := uenc_inj hk hn h2
  refine ⟨?_, h3, h4.symm⟩
  cases hx : x.leaf <;> cases l <;> simp_all

/-! ### Writing, step by step -/

/-! ### Reading, step by step -/

/-- So far these keys (values, kids) have been read; at `p` it goes on. -/
structure RdK (b : List UInt8) (l : Bool) (n : Nat) (ks : List ByteArray) (p : Nat) : Prop where
  eq : b = hdN l n ++ fm ptX ks ++ b.drop p
  at' : p = (hdN l n ++ fm ptX ks).length
  nb : n ≤ 1000000
  sz : ∀ s ∈ ks, s.size ≤ 1000000
  le : ks.length ≤ n

theorem RdK.of {b : List UInt8} {l : Bool} {n : Nat} {ks : List ByteArray} {p : Nat} (h : RdK b l n ks p) {x : Nod} (hx : NodOk x) (hb : bdN x = b) : x.leaf = l ∧ x.keys.length = n ∧ ks = x.keys.take ks.length ∧ b.drop p = fm ptX (x.keys.drop ks.length) ++ (if x.leaf then fm ptX x.vals else fm ptI x.kids) := by
  have a1 := hx.klen
  have h0 : bdN x = hdN l n ++ (fm ptX ks ++ b.drop p) := by rw [← List.append_assoc, ← h.eq]; exact hb
  obtain ⟨h1, h2, h3⟩ := hd_eq h.nb (by omega) h0
  obtain ⟨h4, h5⟩ := fmX_pre h.sz hx.ksz (by have := h.le; omega) h3
  exact ⟨h1, h2, h4, h5⟩

theorem RdK.step {b : List UInt8} {l : Bool} {n : Nat} {ks : List ByteArray} {p : Nat} (h : RdK b l n ks p) (hl : ks.length < n) (ht : (gT b p).2.2 = true) : RdK b l n (ks ++ [sb (gT b p).1]) (gT b p).2.1 := by
  obtain ⟨a1, a2, a3, a4, a5⟩ := gT_step ht
  have hq : b = hdN l n ++ fm ptX (ks ++ [sb (gT b p).1]) ++ b.drop (gT b p).2.1 := by
    rw [fm_snoc]
    conv => lhs; rw [h.eq, a1]
    simp only [List.append_assoc]
  refine ⟨hq, ?_, h.nb, ?_, by simp; omega⟩
  · have := congrArg List.length hq
    simp only [List.length_append, List.length_drop] at this ⊢
    omega
  · intro s hs
    rcases List.mem_append.1 hs with hs | hs
    · exact h.sz s hs
    · obtain rfl := List.mem_singleton.1 hs
      rw [sb_len]; omega

/-- .. and these values. -/
structure RdV (b : List UInt8) (n : Nat) (ks vs : List ByteArray) (p : Nat) : Prop where
  eq : b = hdN true n ++ fm ptX ks ++ fm ptX vs ++ b.drop p
  at' : p = (hdN true n ++ fm ptX ks ++ fm ptX vs).length
  nb : n ≤ 1000000
  ksz : ∀ s ∈ ks, s.size ≤ 1000000
  klen : ks.length = n
  sz : ∀ s ∈ vs, s.size ≤ 1000000
  le : vs.length ≤ n

theorem RdV.of {b : List UInt8} {n : Nat} {ks vs : List ByteArray} {p : Nat} (h : RdV b n ks vs p) {x : Nod} (hx : NodOk x) (hb : bdN x = b) : x.leaf = true ∧ x.keys = ks ∧ x.vals.length = n ∧ vs = x.vals.take vs.length ∧ b.drop p = fm ptX (x.vals.drop vs.length) := by
  have a1 := hx.klen
  have h0 : bdN x = hdN true n ++ (fm ptX ks ++ (fm ptX vs ++ b.drop p)) := by rw [← List.append_assoc, ← List.append_assoc, ← h.eq]; exact hb
  obtain ⟨h1, h2, h3⟩ := hd_eq h.nb (by omega) h0
  obtain ⟨h4, h5⟩ := fmX_pre h.ksz hx.ksz (by have := h.klen; omega) h3
  have hk := h.klen
  obtain ⟨b1, b2, b3⟩ := hx.leaf h1
  rw [h1, hk, ← h2, List.drop_length, fm_nil, List.nil_append] at h5
  have h6 : x.keys = ks := by rw [h4, hk, ← h2, List.take_length]
  have h5' : fm ptX vs ++ b.drop p = fm ptX x.vals ++ [] := by rw [List.append_nil]; exact h5
  obtain ⟨h7, h8⟩ := fmX_pre h.sz hx.vsz (by have := h.le; omega) h5'
  rw [List.append_nil] at h8
  exact ⟨h1, h6, by omega, h7, h8⟩

theorem RdV.step {b : List UInt8} {n : Nat} {ks vs : List ByteArray} {p : Nat} (h : RdV b n ks vs p) (hl : vs.length < n) (ht : (gT b p).2.2 = true) : RdV b n ks (vs ++ [sb (gT b p).1]) (gT b p).2.1 := by
  obtain ⟨a1, a2, a3, a4, a5⟩ := gT_step ht
  have hq : b = hdN true n ++ fm ptX ks ++ fm ptX (vs ++ [sb (gT b p).1]) ++ b.drop (gT b p).2.1 := by
    rw [fm_snoc]
    conv => lhs; rw [h.eq, a1]
    simp only [List.append_assoc]
  refine ⟨hq, ?_, h.nb, h.ksz, h.klen, ?_, by simp; omega⟩
  · have := congrArg List.length hq
    simp only [List.length_append, List.length_drop] at this ⊢
    omega
  · intro s hs
    rcases List.mem_append.1 hs with hs | hs
    · exact h.sz s hs
    · obtain rfl := List.mem_singleton.1 hs
      rw [sb_len]; omega

theorem RdV.fin {b : List UInt8} {n : Nat} {ks vs : List ByteArray} {p : Nat} (h : RdV b n ks vs p) (hl : vs.length = n) : bdN ⟨true, ks, vs, []⟩ ++ b.drop p = b ∧ ∀ x, NodOk x → bdN x = b → x = ⟨true, ks, vs, []⟩ := by
  constructor
  · have e := h.eq
    show hdN true ks.length ++ fm ptX ks ++ fm ptX vs ++ b.drop p = b
    rw [h.klen]; exact e.symm
  · intro x hx hb
    obtain ⟨h1, h2, h3, h4, h5⟩ := h.of hx hb
    obtain ⟨b1, b2, b3⟩ := hx.leaf h1
    have h6 : x.vals = vs := by rw [h4, hl, ← h3, List.take_length]
    obtain ⟨xl, xk, xv, xi⟩ := x
    dsimp only at *
    subst h1 h2 h6 b3; rfl

/-- .. or these kids. -/
structure RdI (b : List UInt8) (n : Nat) (ks : List ByteArray) (is : List Int) (p : Nat) : Prop where
  eq : b = hdN false n ++ fm ptX ks ++ fm ptI is ++ b.drop p
  at' : p = (hdN false n ++ fm ptX ks ++ fm ptI is).length
  nb : n ≤ 1000000
  ksz : ∀ s ∈ ks, s.size ≤ 1000000
  klen : ks.length = n
  sz : ∀ s ∈ is, 0 ≤ s ∧ s ≤ 1000000
  le : is.length ≤ n + 1

theorem RdI.of {b : List UInt8} {n : Nat} {ks : List ByteArray} {is : List Int} {p : Nat} (h : RdI b n ks is p) {x : Nod} (hx : NodOk x) (hb : bdN x = b) : x.leaf = false ∧ x.keys = ks ∧ x.kids.length = n + 1 ∧ is = x.kids.take is.length ∧ b.drop p = fm ptI (x.kids.drop is.length) := by
  have a1 := hx.klen
  have h0 : bdN x = hdN false n ++ (fm ptX ks ++ (fm ptI is ++ b.drop p)) := by rw [← List.append_assoc, ← List.append_assoc, ← h.eq]; exact hb
  obtain ⟨h1, h2, h3⟩ := hd_eq h.nb (by omega) h0
  obtain ⟨h4, h5⟩ := fmX_pre h.ksz hx.ksz (by have := h.klen; omega) h3
  have hk := h.klen
  obtain ⟨b1, b2, b3⟩ := hx.inner h1
  rw [h1, hk, ← h2, List.drop_length, fm_nil, List.nil_append] at h5
  have h6 : x.keys = ks := by rw [h4, hk, ← h2, List.take_length]
  have h5' : fm ptI is ++ b.drop p = fm ptI x.kids ++ [] := by rw [List.append_nil]; exact h5
  obtain ⟨h7, h8⟩ := fmI_pre h.sz hx.kid1 (by have := h.le; omega) h5'
  rw [List.append_nil] at h8
  exact ⟨h1, h6, by omega, h7, h8⟩

theorem RdI.step {b : List UInt8} {n : Nat} {ks : List ByteArray} {is : List Int} {p : Nat} (h : RdI b n ks is p) (hl : is.length < n + 1) (ht : (gU b p).2.2 = true) : RdI b n ks (is ++ [((gU b p).1 : Int)]) (gU b p).2.1 := by
  obtain ⟨a1, a2, a3⟩ := gU_step ht
  have a4 := (gU_small b p).1
  have hq : b = hdN false n ++ fm ptX ks ++ fm ptI (is ++ [((gU b p).1 : Int)]) ++ b.drop (gU b p).2.1 := by
    rw [fm_snoc, show ptI ((gU b p).1 : Int) = uenc (gU b p).1 from congrArg uenc (clN_nat a4)]
    conv => lhs; rw [h.eq, a1]
    simp only [List.append_assoc]
  refine ⟨hq, ?_, h.nb, h.ksz, h.klen, ?_, by simp; omega⟩
  · have := congrArg List.length hq
    simp only [List.length_append, List.length_drop] at this ⊢
    omega
  · intro s hs
    rcases List.mem_append.1 hs with hs | hs
    · exact h.sz s hs
    · obtain rfl := List.mem_singleton.1 hs
      omega

theorem RdI.fin {b : List UInt8} {n : Nat} {ks : List ByteArray} {is : List Int} {p : Nat} (h : RdI b n ks is p) (hl : is.length = n + 1) : bdN ⟨false, ks, [], is⟩ ++ b.drop p = b ∧ ∀ x, NodOk x → bdN x = b → x = ⟨false, ks, [], is⟩ := by
  constructor
  · have e := h.eq
    show hdN false ks.length ++ fm ptX ks ++ fm ptI is ++ b.drop p = b
    rw [h.klen]; exact e.symm
  · intro x hx hb
    obtain ⟨h1, h2, h3, h4, h5⟩ := h.of hx hb
    obtain ⟨b1, b2, b3⟩ := hx.inner h1
    have h6 : x.kids = is := by rw [h4, hl, ← h3, List.take_length]
    obtain ⟨xl, xk, xv, xi⟩ := x
    dsimp only at *
    subst h1 h2 h6 b3; rfl
end

section
open Go Go.RowKit Go.IntWalk

open Enc (sz cs)

theorem jA {p q A B : Prop} (k : p → A) (h : q → False := by intro h; first | exact tf h | exact ft h | exact bct h (by assumption) | exact bct (by assumption) h | exact h (by with_reducible rfl) | omega | (dsimp only at h; omega)) : (p → A) ∧ (q → B) := kA h k

theorem jB {p q A B : Prop} (k : q → B) (h : p → False := by intro h; first | exact tf h | exact ft h | exact bct h (by assumption) | exact bct (by assumption) h | exact h (by with_reducible rfl) | omega | (dsimp only at h; omega)) : (p → A) ∧ (q → B) := kB h k

theorem jS {x : Nat} {K : Int → Prop} (k : K ((x + 1 : Nat) : Int)) (h : x < 9223372036854775807 := by omega) : ∃ c, IntKind.i64.wrap ((x : Int) + 1) = c ∧ K c := ke (i64_suc h) k

theorem jI {n : Int} {K : Int → Prop} (k : K n) (h : -9223372036854775808 ≤ n ∧ n ≤ 9223372036854775807 := by omega) : ∃ c, IntKind.i64.wrap n = c ∧ K c := ke (i64_in n h) k

theorem jD {a b c : Bool} {Q : Prop} (k : Q) (ha : a = true := by kernel_rfl) (hb : b = true := by kernel_rfl) (hc : c = true := by kernel_rfl) : Drw a b c ∧ Q := kd ha hb hc k

theorem jP {vals : List (Bool × List Cell)} {outs : List (Option (List Cell))} {K : Prop} (k : K) (h : pureV vals outs = true := by first | rfl | (simp; done)) : PureS vals outs ∧ K := ⟨⟨h⟩, k⟩

section

variable {α : Type} [Enc α] {o : Bool} {xs : List α}

theorem jO {s n : Nat} {K : Prop} (k : K) (hn : xs.length = n := by first | rfl | simp) (hs : sz α = s := by rfl) : (0 = 0 ∧ (cs o xs).length = n * s ∧ (cs o xs).all Cell.shal = true) ∧ K := ⟨owc hn hs, k⟩

theorem jX {s n : Nat} {K : Prop} (k : K) (h : s ≠ 0 := by decide) (hn : xs.length = n := by first | rfl | simp) (hs : sz α = s := by rfl) : (0 = 0 ∧ (cs o xs).length = n * s ∧ s ≠ 0 ∧ (cs o xs).all Cell.shal = true) ∧ K := ⟨exc h hn hs, k⟩

theorem jr {i s : Nat} (h : i < xs.length := by omega) (hs : sz α = s := by rfl) : ((cs o xs).drop (((i : Nat) : Int).toNat * s)).take s = cs o [xs[i]] := rd h hs

theorem jc {i s : Nat} (h : i < xs.length := by omega) (hs : sz α = s := by rfl) : cut (cs o xs) (i * s) s = some (cs o [xs[i]]) := ct0 h hs

theorem jp {i s : Nat} {c : List Cell} {y : α} (h : i < xs.length := by omega) (hc : c = cs o [y] := by exact rfl) (hs : sz α = s := by rfl) : put (cs o xs) (i * s) c = some (cs o (xs.set i y)) := pt0 h y hc hs

end

theorem jb {α : Sort _} {p q : Prop} {a b : α} {K : α → Prop} (h : a = b) (k : K b) (hp : p := by omega) (hq : q := by omega) : (p ∧ q) ∧ ∃ c, a = c ∧ K c := ⟨⟨hp, hq⟩, b, h, k⟩

theorem jM {n q : Nat} {b : Nat} {z : List Cell} {K : Nat → Nat → List Cell → Prop} (k : K n z.length (zerosT z n)) (hn : (n : Int) = (q : Int) := by exact rfl) (h : n ≤ 100000000 := by omega) (hb : Nat.ble b 1000 = true := by rfl) :
    ((n : Int) = (q : Int) ∧ 0 ≤ (n : Int) ∧ (n : Int) ≤ 140737488355328 ∧ (n : Int).toNat * b ≤ bigB) ∧ ∃ m s N, (n : Int).toNat = m ∧ z.length = s ∧ zerosT z m = N ∧ K m s N := km hn h k hb

/-- Appending: what is appended is `N`, `m` elements. -/
theorem jap {so : Option (Nat × List Cell)} {m : Nat} {N : List Cell} {A1 : Prop} {A2 A3 : Nat → Prop} {B : Nat → List Cell → Prop} (k : B m N) (hs : so = some (m, N) := by exact rfl) (h1 : A1 := by (simp; done)) (h2 : A2 m := by exact bgb (by simp; omega)) (h3 : A3 m := by exact bg (by simp; omega)) : ∃ m N, so = some (m, N) ∧ (A1 ∧ A2 m ∧ A3 m) ∧ B m N := ⟨m, N, hs, ⟨h1, h2, h3⟩, k⟩

/-- The state as told. -/
theorem jw {n : Nat} {τ : W} (fl : List Nat) {t : List (Nat × TV)} {hs : List (Option Node)} {nx tn : Nat}
    (h : ptK τ t [] fun ps => pnK τ hs fl ps fun ps => rhK ps fl n 0 hs fun r q => okR n r hs nx = true ∧ tn = τ.tn ∧ tsX τ q t ∧ hsX τ q r hs := by
      (conv => whnf)
      exact And.intro (by kernel_rfl) (And.intro (by kernel_rfl) (by repeat' (first | (with_reducible exact rfl) | ((conv => whnf); first | exact trivial | exact rfl | exact tvi (by first | omega | (dsimp only; omega) | (simp; done)) | exact tvr (by first | omega | (dsimp only; omega) | (simp; done) | (simp; omega)) | exact ⟨rfl, clo_i, by first | rfl | rw [List.take_length] | assumption⟩ | refine And.intro ?_ ?_))))) : WGh n τ ⟨t, idx 0 hs, nx, tn⟩ := w_autoX fl h
end

section
open Go Go.RowKit Go.IntWalk

open Enc (sz cs)

attribute [local irreducible] IntKind.wrap

def md : FuncId → List Mode
  | 87 => [.own 1]
  | 89 => [.own 1]
  | 90 => [.own 1]
  | 105 => [.own 1]
  | 72 => [.own 1]
  | 71 => [.own 1]
  | 66 => [.own 1, .own 1]
  | 106 => [.own 1, .own 1]
  | 152 => [.own 1]
  | 120 => [.own 1]
  | 157 => [.own 1]
  | 88 => [.own 1]
  | 158 => [.own 1]
  | 139 => [.own 1]
  | 132 => [.own 1]
  | 104 => [.own 1]
  | 130 => [.own 1]
  | 153 => [.own 1]
  | 107 => [.own 1]
  | 73 => [.own 1]
  | 102 => [.own 1]
  | 35 => [.own 1]
  | 65 => [.own 1]
  | 103 => [.own 1]
  | 67 => [.own 1]
  | 101 => [.own 1]
  | 38 => [.own 1]
  | 70 => [.own 1]
  | 69 => [.own 1]
  | 36 => [.own 1]
  | 64 => [.own 1]
  | 63 => [.own 1]
  | _ => []

def X0 : FuncId → List Arg → List (Bool × List Cell) → List (Option (List Cell)) → Prop := fun f a v o => (f = 150 ∧ a = [.val false [s1 ⟨#[116, 97, 98, 108, 101, 32, 112, 114, 105, 109, 97, 114, 121, 32, 117, 110, 105, 113, 117, 101, 32, 105, 110, 100, 101, 120, 32, 110, 117, 108, 108, 32, 100, 101, 115, 99, 32, 105, 110, 116, 32, 110, 117, 109, 32, 116, 101, 120, 116, 32, 98, 111, 111, 108]⟩], .val false [s1 ⟨#[32]⟩]] ∧ v = [(false, [.sl true 10 1 [s1 ⟨#[116, 97, 98, 108, 101]⟩, s1 ⟨#[112, 114, 105, 109, 97, 114, 121]⟩, s1 ⟨#[117, 110, 105, 113, 117, 101]⟩, s1 ⟨#[105, 110, 100, 101, 120]⟩, s1 ⟨#[110, 117, 108, 108]⟩, s1 ⟨#[100, 101, 115, 99]⟩, s1 ⟨#[105, 110, 116]⟩, s1 ⟨#[110, 117, 109]⟩, s1 ⟨#[116, 101, 120, 116]⟩, s1 ⟨#[98, 111, 111, 108]⟩]])] ∧ o = [none, none])

abbrev T (f : FuncId) (a : List Arg) (vals : List (Bool × List Cell)) (outs : List (Option (List Cell))) : Prop := D Tryz.prog X0 (.call f a vals outs)

abbrev aI (n : Int) : Arg := .val false [i6 n]

abbrev aB (n : Bool) : Arg := .val false [b1 n]

abbrev aS (n : ByteArray) : Arg := .val false [s1 n]

abbrev aE {α : Type} [Enc α] (xs : List α) : Arg := .val false [slE false xs]

abbrev aO {α : Type} [Enc α] (xs : List α) : Arg := .own false xs.length (sz α) (cs true xs)

abbrev vI (n : Int) : Bool × List Cell := (false, [i6 n])

abbrev vB (b : Bool) : Bool × List Cell := (false, [b1 b])

abbrev vS (b : ByteArray) : Bool × List Cell := (false, [s1 b])

abbrev vE {α : Type} [Enc α] (xs : List α) : Bool × List Cell := (false, [slE true xs])

theorem vIe {a b : Int} (h : a = b) : [vI a] = [vI b] := by rw [h]

theorem jV {a b : Int} {β : Type} {x y : β} (h : a = b := by omega) (h2 : x = y := by rfl) : [vI a] = [vI b] ∧ x = y := ⟨vIe h, h2⟩

set_option maxRecDepth 100000 in
theorem tx45 {n l h : Int} : T 45 [aI n, aI l, aI h] [vB (inB n l h)] [none, none, none] := by
  refine w_call md [] Tryz.func45 rfl ?_
  repeat' ((conv => whnf); (first | refine k0 ?_ | refine jA fun _ => ?_ | refine jB fun _ => ?_ | refine kC (fun _ => ?_) fun _ => ?_ | refine jS ?_ | refine jI ?_ | refine jD ?_ | refine ⟨snc, _, snr, ?_⟩ | refine ⟨⟨Nat.le_refl _, rfl⟩, [], rfl, ?_⟩ | refine And.intro ⟨rfl, rfl, by decide, rfl⟩ ?_ | refine jP ?_ | refine jO ?_ | refine jX ?_ | refine jb jr ?_ | refine jb ofs ?_ | refine ko jc ?_ | refine ko jp ?_ | refine jM ?_ | refine kr ?_ | refine ko rfl ?_ | refine And.intro (cs_shal _) ?_ | refine And.intro (rfl : List.all _ _ = true) ?_ | refine And.intro ⟨rfl, (rfl : List.all _ _ = true)⟩ ?_ | exact ⟨rfl, rfl⟩ | exact jV | fail))
  all_goals exact ⟨by simp [inB]; omega, rfl⟩

theorem cx45 {P : Program} {X : FuncId → List Arg → List (Bool × List Cell) → List (Option (List Cell)) → Prop} {a : List Arg} {Q : List (Bool × List Cell) → List (Option (List Cell)) → Prop} (h : ∃ b vals outs, a = b ∧ D P X (.call 45 b vals outs) ∧ Q vals outs) : CallS P X 45 a Q := ⟨h⟩

set_option maxRecDepth 100000 in
theorem tx39 {n l h : Int} : T 39 [aI n, aI l, aI h] [vB (inB n l h)] [none, none, none] := by
  refine w_call md [] Tryz.func39 rfl ?_
  repeat' ((conv => whnf); (first | refine k0 ?_ | refine jA fun _ => ?_ | refine jB fun _ => ?_ | refine kC (fun _ => ?_) fun _ => ?_ | refine jS ?_ | refine jI ?_ | refine jD ?_ | refine ⟨snc, _, snr, ?_⟩ | refine ⟨⟨Nat.le_refl _, rfl⟩, [], rfl, ?_⟩ | refine And.intro ⟨rfl, rfl, by decide, rfl⟩ ?_ | refine jP ?_ | refine jO ?_ | refine jX ?_ | refine jb jr ?_ | refine jb ofs ?_ | refine ko jc ?_ | refine ko jp ?_ | refine jM ?_ | refine kr ?_ | refine ko rfl ?_ | refine And.intro (cs_shal _) ?_ | refine And.intro (rfl : List.all _ _ = true) ?_ | refine And.intro ⟨rfl, (rfl : List.all _ _ = true)⟩ ?_ | exact ⟨rfl, rfl⟩ | exact jV | fail))
  all_goals exact ⟨by simp [inB]; omega, rfl⟩

theorem cx39 {P : Program} {X : FuncId → List Arg → List (Bool × List Cell) → List (Option (List Cell)) → Prop} {a : List Arg} {Q : List (Bool × List Cell) → List (Option (List Cell)) → Prop} (h : ∃ b vals outs, a = b ∧ D P X (.call 39 b vals outs) ∧ Q vals outs) : CallS P X 39 a Q := ⟨h⟩

/-- Held so that nothing but the step takes it. -/
structure Wrp (Q : Prop) : Prop where
  h : Q

theorem jst {P Q : Prop} (k : Q) (h : Wrp Q → P := by first | exact fun k => jS k.h | exact fun k => jI k.h | exact fun k => jD k.h | exact fun k => ⟨snc, _, snr, k.h⟩ | exact fun k => ⟨⟨Nat.le_refl _, rfl⟩, [], rfl, k.h⟩ | exact fun k => And.intro ⟨rfl, rfl, by decide, rfl⟩ k.h | exact fun k => jP k.h | exact fun k => jO k.h | exact fun k => jX k.h | exact fun k => jb jr k.h | exact fun k => jb ofs k.h | exact fun k => ko jc k.h | exact fun k => ko jp k.h | exact fun k => jM k.h | exact fun k => kr k.h | exact fun k => ko rfl k.h | exact fun k => And.intro (cs_shal _) k.h | exact fun k => And.intro (rfl : List.all _ _ = true) k.h | exact fun k => And.intro ⟨rfl, (rfl : List.all _ _ = true)⟩ k.h) : P := h ⟨k⟩
end

section
open Go Go.RowKit Go.IntWalk

open Enc (sz cs)

attribute [local irreducible] IntKind.wrap

/-! ### Names -/

abbrev wrds : List ByteArray := [⟨#[116, 97, 98, 108, 101]⟩, ⟨#[112, 114, 105, 109, 97, 114, 121]⟩, ⟨#[117, 110, 105, 113, 117, 101]⟩, ⟨#[105, 110, 100, 101, 120]⟩, ⟨#[110, 117, 108, 108]⟩, ⟨#[100, 101, 115, 99]⟩, ⟨#[105, 110, 116]⟩, ⟨#[110, 117, 109]⟩, ⟨#[116, 101, 120, 116]⟩, ⟨#[98, 111, 111, 108]⟩]

abbrev NmC (s : ByteArray) (i : Nat) (h : i < s.size) : Prop := (97 ≤ s[i].toNat ∧ s[i].toNat ≤ 122) ∨ (0 < i ∧ 48 ≤ s[i].toNat ∧ s[i].toNat ≤ 57)

structure NmOk (s : ByteArray) : Prop where
  len : 1 ≤ s.size ∧ s.size ≤ 8
  chr : ∀ i (h : i < s.size), NmC s i h

open Classical in
noncomputable def nmOk (s : ByteArray) : Bool := decide (NmOk s)

theorem nmOk_y {s : ByteArray} (h : NmOk s) : nmOk s = true := by unfold nmOk; simp [h]

theorem nmOk_n {s : ByteArray} (h : ¬ NmOk s) : nmOk s = false := by unfold nmOk; simp [h]

open Classical in
/-- A name that is free. -/
noncomputable def frOk (s : ByteArray) : Bool := nmOk s && decide (s ∉ wrds)

theorem frOk_w {s : ByteArray} (h : s ∈ wrds) : frOk s = false := by unfold frOk; simp [h]

theorem frOk_f {s : ByteArray} (h : s ∉ wrds) : frOk s = nmOk s := by unfold frOk; simp [h]

theorem sgt {s : ByteArray} {i : Nat} (h : i < s.size) : s.data.toList[((i : Nat) : Int).toNat]? = some s[i] := by
  rw [Int.toNat_natCast, Array.getElem?_toList, Array.getElem?_eq_getElem h]; rfl

theorem nmOk_c {s : ByteArray} {i : Nat} (h : i < s.size) (hc : ¬ NmC s i h) : nmOk s = false := nmOk_n fun q => hc (q.chr i h)

theorem tx150 : T 150 [aS ⟨#[116, 97, 98, 108, 101, 32, 112, 114, 105, 109, 97, 114, 121, 32, 117, 110, 105, 113, 117, 101, 32, 105, 110, 100, 101, 120, 32, 110, 117, 108, 108, 32, 100, 101, 115, 99, 32, 105, 110, 116, 32, 110, 117, 109, 32, 116, 101, 120, 116, 32, 98, 111, 111, 108]⟩, aS ⟨#[32]⟩] [vE wrds] [none, none] := .ext ⟨rfl, rfl, rfl, rfl⟩

theorem cx150 {P : Program} {X : FuncId → List Arg → List (Bool × List Cell) → List (Option (List Cell)) → Prop} {a : List Arg} {Q : List (Bool × List Cell) → List (Option (List Cell)) → Prop} (h : ∃ b vals outs, a = b ∧ D P X (.call 150 b vals outs) ∧ Q vals outs) : CallS P X 150 a Q := ⟨h⟩

abbrev aU (c : UInt8) : Arg := .val false [.prim (.int .u8 (c.toNat : Int))]

abbrev isL (c : UInt8) : Bool := decide (97 ≤ c.toNat ∧ c.toNat ≤ 122)

abbrev isD (c : UInt8) : Bool := decide (48 ≤ c.toNat ∧ c.toNat ≤ 57)

set_option maxRecDepth 100000 in
theorem tx167 {c : UInt8} : T 167 [aU c] [vB (isL c)] [none] := by
  refine w_call md [] Tryz.func167 rfl ?_
  repeat' ((conv => whnf); (first | refine k0 ?_ | refine jA fun _ => ?_ | refine jB fun _ => ?_ | refine kC (fun _ => ?_) fun _ => ?_ | refine jst ?_ | exact ⟨rfl, rfl⟩ | exact jV | fail))
  all_goals exact ⟨by simp only [isL]; first | rw [decide_eq_true (by omega)] | rw [decide_eq_false (by omega)], rfl⟩

theorem cx167 {P : Program} {X : FuncId → List Arg → List (Bool × List Cell) → List (Option (List Cell)) → Prop} {a : List Arg} {Q : List (Bool × List Cell) → List (Option (List Cell)) → Prop} (h : ∃ b vals outs, a = b ∧ D P X (.call 167 b vals outs) ∧ Q vals outs) : CallS P X 167 a Q := ⟨h⟩

set_option maxRecDepth 100000 in
theorem tx168 {c : UInt8} : T 168 [aU c] [vB (isD c)] [none] := by
  refine w_call md [] Tryz.func168 rfl ?_
  repeat' ((conv => whnf); (first | refine k0 ?_ | refine jA fun _ => ?_ | refine jB fun _ => ?_ | refine kC (fun _ => ?_) fun _ => ?_ | refine jst ?_ | exact ⟨rfl, rfl⟩ | exact jV | fail))
  all_goals exact ⟨by simp only [isD]; first | rw [decide_eq_true (by omega)] | rw [decide_eq_false (by omega)], rfl⟩

theorem cx168 {P : Program} {X : FuncId → List Arg → List (Bool × List Cell) → List (Option (List Cell)) → Prop} {a : List Arg} {Q : List (Bool × List Cell) → List (Option (List Cell)) → Prop} (h : ∃ b vals outs, a = b ∧ D P X (.call 168 b vals outs) ∧ Q vals outs) : CallS P X 168 a Q := ⟨h⟩

set_option maxRecDepth 100000 in
theorem tx154 {c : UInt8} : T 154 [aU c] [vB (isL c)] [none] := by
  refine w_call md [] Tryz.func154 rfl ?_
  have hu := UInt8.toNat_lt c
  have h : inB (c.toNat : Int) 97 122 = isL c := by
    simp only [inB, isL]
    by_cases h : 97 ≤ c.toNat ∧ c.toNat ≤ 122
    · rw [decide_eq_true h]; simp; omega
    · rw [decide_eq_false h]; simp; omega
  repeat' ((conv => whnf); (first | refine k0 ?_ | refine jA fun _ => ?_ | refine jB fun _ => ?_ | refine kC (fun _ => ?_) fun _ => ?_ | (apply cx39; refine kl tx39 ?_) | refine jst ?_ | exact ⟨rfl, rfl⟩ | exact jV | fail))
  all_goals exact ⟨by rw [← h, ‹inB _ _ _ = _›], rfl⟩

theorem cx154 {P : Program} {X : FuncId → List Arg → List (Bool × List Cell) → List (Option (List Cell)) → Prop} {a : List Arg} {Q : List (Bool × List Cell) → List (Option (List Cell)) → Prop} (h : ∃ b vals outs, a = b ∧ D P X (.call 154 b vals outs) ∧ Q vals outs) : CallS P X 154 a Q := ⟨h⟩

set_option maxRecDepth 100000 in
theorem tx155 {c : UInt8} : T 155 [aU c] [vB (isD c)] [none] := by
  refine w_call md [] Tryz.func155 rfl ?_
  have hu := UInt8.toNat_lt c
  have h : inB (c.toNat : Int) 48 57 = isD c := by
    simp only [inB, isD]
    by_cases h : 48 ≤ c.toNat ∧ c.toNat ≤ 57
    · rw [decide_eq_true h]; simp; omega
    · rw [decide_eq_false h]; simp; omega
  repeat' ((conv => whnf); (first | refine k0 ?_ | refine jA fun _ => ?_ | refine jB fun _ => ?_ | refine kC (fun _ => ?_) fun _ => ?_ | (apply cx39; refine kl tx39 ?_) | refine jst ?_ | exact ⟨rfl, rfl⟩ | exact jV | fail))
  all_goals exact ⟨by rw [← h, ‹inB _ _ _ = _›], rfl⟩

theorem cx155 {P : Program} {X : FuncId → List Arg → List (Bool × List Cell) → List (Option (List Cell)) → Prop} {a : List Arg} {Q : List (Bool × List Cell) → List (Option (List Cell)) → Prop} (h : ∃ b vals outs, a = b ∧ D P X (.call 155 b vals outs) ∧ Q vals outs) : CallS P X 155 a Q := ⟨h⟩

set_option maxRecDepth 100000 in
theorem tx151 {s : ByteArray} (hs : s.size ≤ 2000000 := by first | assumption | omega | (simp; done) | (simp; omega)) : T 151 [aS s] [vB (nmOk s)] [none] := by
  refine w_call md [] Tryz.func151 rfl ?_
  repeat' ((conv => whnf); (first | refine k0 ?_ | refine jA fun _ => ?_ | refine jB fun _ => ?_ | refine kC (fun _ => ?_) fun _ => ?_ | (apply cx167; refine kl tx167 ?_) | (apply cx168; refine kl tx168 ?_) | (apply cx45; refine kl tx45 ?_) | refine jst ?_ | exact ⟨rfl, rfl⟩ | exact jV | fail))
  conv => whnf
  refine loopk (ι := Nat) (fun i => i ≤ s.size ∧ ∀ j (h : j < s.size), j < i → NmC s j h) (fun i => s.size - i) (0) [0] (fun i => [(3, .v false [i6 i])]) [none] ?_
  refine ⟨⟨by omega, by intros; omega⟩, ?_, fun i hi => ?_⟩
  · exact jw []
  · repeat' ((conv => whnf); (first | refine k0 ?_ | (apply cx167; refine kl tx167 ?_) | (apply cx168; refine kl tx168 ?_) | (apply cx45; refine kl tx45 ?_) | refine jst ?_ | exact ⟨rfl, rfl⟩ | exact jV | fail))
    conv => whnf
    refine ⟨fun hlt => ?_, fun hge => ?_⟩
    · have hi2 : i < s.size := by omega
      repeat' ((conv => whnf); (first | (apply cx167; refine kl (tx167 (c := s[i])) ?_) | (apply cx168; refine kl (tx168 (c := s[i])) ?_) | refine And.intro (by omega) (Exists.intro s[i] (And.intro (sgt hi2) ?_)) | refine k0 ?_ | refine jA fun _ => ?_ | refine jB fun _ => ?_ | refine kC (fun _ => ?_) fun _ => ?_ | (apply cx167; refine kl tx167 ?_) | (apply cx168; refine kl tx168 ?_) | (apply cx45; refine kl tx45 ?_) | refine jst ?_ | exact ⟨rfl, rfl⟩ | exact jV | fail))
      · refine ⟨⟨i + 1, by omega, all_suc hi.2 hi2 (.inl (of_decide_eq_true ‹isL _ = true›))⟩, by simp only; omega, ?_⟩
        exact jw []
      · have hl := of_decide_eq_false ‹isL _ = false›
        exact ⟨by rw [nmOk_c hi2 (fun q => q.elim hl fun q => absurd q.1 (by omega))], rfl⟩
      · have hd := of_decide_eq_true ‹isD _ = true›
        refine ⟨⟨i + 1, by omega, all_suc hi.2 hi2 (.inr ⟨by omega, hd⟩)⟩, by simp only; omega, ?_⟩
        exact jw []
      · have hl := of_decide_eq_false ‹isL _ = false›
        have hd := of_decide_eq_false ‹isD _ = false›
        exact ⟨by rw [nmOk_c hi2 (fun q => q.elim hl fun q => hd q.2)], rfl⟩
    · obtain rfl : i = s.size := by omega
      have hl : inB (s.size : Int) 1 8 = nmOk s := by
        by_cases h : 1 ≤ s.size ∧ s.size ≤ 8
        · rw [nmOk_y ⟨h, fun j hj => hi.2 j hj hj⟩, inB_iff]; omega
        · rw [nmOk_n fun q => h q.len, inB_no]; omega
      repeat' ((conv => whnf); (first | refine k0 ?_ | refine jA fun _ => ?_ | refine jB fun _ => ?_ | refine kC (fun _ => ?_) fun _ => ?_ | (apply cx167; refine kl tx167 ?_) | (apply cx168; refine kl tx168 ?_) | (apply cx45; refine kl tx45 ?_) | refine jst ?_ | exact ⟨rfl, rfl⟩ | exact jV | fail))
      all_goals exact ⟨by rw [← hl, ‹inB _ _ _ = _›], rfl⟩

theorem cx151 {P : Program} {X : FuncId → List Arg → List (Bool × List Cell) → List (Option (List Cell)) → Prop} {a : List Arg} {Q : List (Bool × List Cell) → List (Option (List Cell)) → Prop} (h : ∃ b vals outs, a = b ∧ D P X (.call 151 b vals outs) ∧ Q vals outs) : CallS P X 151 a Q := ⟨h⟩

set_option maxRecDepth 100000 in
theorem tx133 {s : ByteArray} (hs : s.size ≤ 2000000 := by first | assumption | omega | (simp; done) | (simp; omega)) : T 133 [aS s] [vB (nmOk s)] [none] := by
  refine w_call md [] Tryz.func133 rfl ?_
  repeat' ((conv => whnf); (first | refine k0 ?_ | refine jA fun _ => ?_ | refine jB fun _ => ?_ | refine kC (fun _ => ?_) fun _ => ?_ | (apply cx154; refine kl tx154 ?_) | (apply cx155; refine kl tx155 ?_) | (apply cx39; refine kl tx39 ?_) | refine jst ?_ | exact ⟨rfl, rfl⟩ | exact jV | fail))
  conv => whnf
  refine loopk (ι := Nat) (fun i => i ≤ s.size ∧ ∀ j (h : j < s.size), j < i → NmC s j h) (fun i => s.size - i) (0) [0] (fun i => [(3, .v false [i6 i])]) [none] ?_
  refine ⟨⟨by omega, by intros; omega⟩, ?_, fun i hi => ?_⟩
  · exact jw []
  · repeat' ((conv => whnf); (first | refine k0 ?_ | (apply cx154; refine kl tx154 ?_) | (apply cx155; refine kl tx155 ?_) | (apply cx39; refine kl tx39 ?_) | refine jst ?_ | exact ⟨rfl, rfl⟩ | exact jV | fail))
    conv => whnf
    refine ⟨fun hlt => ?_, fun hge => ?_⟩
    · have hi2 : i < s.size := by omega
      repeat' ((conv => whnf); (first | (apply cx154; refine kl (tx154 (c := s[i])) ?_) | (apply cx155; refine kl (tx155 (c := s[i])) ?_) | refine And.intro (by omega) (Exists.intro s[i] (And.intro (sgt hi2) ?_)) | refine k0 ?_ | refine jA fun _ => ?_ | refine jB fun _ => ?_ | refine kC (fun _ => ?_) fun _ => ?_ | (apply cx154; refine kl tx154 ?_) | (apply cx155; refine kl tx155 ?_) | (apply cx39; refine kl tx39 ?_) | refine jst ?_ | exact ⟨rfl, rfl⟩ | exact jV | fail))
      · refine ⟨⟨i + 1, by omega, all_suc hi.2 hi2 (.inl (of_decide_eq_true ‹isL _ = true›))⟩, by simp only; omega, ?_⟩
        exact jw []
      · have hl := of_decide_eq_false ‹isL _ = false›
        exact ⟨by rw [nmOk_c hi2 (fun q => q.elim hl fun q => absurd q.1 (by omega))], rfl⟩
      · have hd := of_decide_eq_true ‹isD _ = true›
        refine ⟨⟨i + 1, by omega, all_suc hi.2 hi2 (.inr ⟨by omega, hd⟩)⟩, by simp only; omega, ?_⟩
        exact jw []
      · have hl := of_decide_eq_false ‹isL _ = false›
        have hd := of_decide_eq_false ‹isD _ = false›
        exact ⟨by rw [nmOk_c hi2 (fun q => q.elim hl fun q => hd q.2)], rfl⟩
    · obtain rfl : i = s.size := by omega
      have hl : inB (s.size : Int) 1 8 = nmOk s := by
        by_cases h : 1 ≤ s.size ∧ s.size ≤ 8
        · rw [nmOk_y ⟨h, fun j hj => hi.2 j hj hj⟩, inB_iff]; omega
        · rw [nmOk_n fun q => h q.len, inB_no]; omega
      repeat' ((conv => whnf); (first | refine k0 ?_ | refine jA fun _ => ?_ | refine jB fun _ => ?_ | refine kC (fun _ => ?_) fun _ => ?_ | (apply cx154; refine kl tx154 ?_) | (apply cx155; refine kl tx155 ?_) | (apply cx39; refine kl tx39 ?_) | refine jst ?_ | exact ⟨rfl, rfl⟩ | exact jV | fail))
      all_goals exact ⟨by rw [← hl, ‹inB _ _ _ = _›], rfl⟩

theorem cx133 {P : Program} {X : FuncId → List Arg → List (Bool × List Cell) → List (Option (List Cell)) → Prop} {a : List Arg} {Q : List (Bool × List Cell) → List (Option (List Cell)) → Prop} (h : ∃ b vals outs, a = b ∧ D P X (.call 133 b vals outs) ∧ Q vals outs) : CallS P X 133 a Q := ⟨h⟩

open Classical in
noncomputable def hasW (l : List ByteArray) (s : ByteArray) : Bool := decide (s ∈ l)

theorem hasW_y {l : List ByteArray} {s : ByteArray} (h : s ∈ l) : hasW l s = true := by unfold hasW; simp [h]

theorem hasW_n {l : List ByteArray} {s : ByteArray} (h : ∀ j (hj : j < l.length), l[j] ≠ s) : hasW l s = false := by
  have q : ¬ s ∈ l := fun q => by
    obtain ⟨j, hj, e⟩ := List.getElem_of_mem q
    exact h j hj e
  unfold hasW; simp [q]

theorem ba_eq {a b : ByteArray} (h : a.toList = b.toList) : a = b := by
  rw [ByteArray.toList_eq, ByteArray.toList_eq] at h
  exact ByteArray.ext (Array.toList_inj.1 h)

theorem fr_has (s : ByteArray) : frOk s = (nmOk s && !hasW wrds s) := by
  unfold frOk hasW
  by_cases h : s ∈ wrds <;> simp [h]

set_option maxRecDepth 100000 in
theorem tx134 {l : List ByteArray} {s : ByteArray} (hl : l.length ≤ 2000000 := by first | assumption | omega | (simp; done) | (simp; omega)) : T 134 [aE l, aS s] [vB (hasW l s)] [none, none] := by
  refine w_call md [] Tryz.func134 rfl ?_
  repeat' ((conv => whnf); (first | refine k0 ?_ | refine jA fun _ => ?_ | refine jB fun _ => ?_ | refine kC (fun _ => ?_) fun _ => ?_ | refine jst ?_ | exact ⟨rfl, rfl⟩ | exact jV | fail))
  conv => whnf
  refine loopk (ι := Nat) (fun i => i ≤ l.length ∧ ∀ j (h : j < l.length), j < i → l[j] ≠ s) (fun i => l.length - i) (0) [0, 1] (fun i => [(5, .v false [i6 i])]) [none, none] ?_
  refine ⟨⟨by omega, by intros; omega⟩, ?_, fun i hi => ?_⟩
  · exact jw []
  · repeat' ((conv => whnf); (first | refine k0 ?_ | refine jst ?_ | exact ⟨rfl, rfl⟩ | exact jV | fail))
    conv => whnf
    refine ⟨fun hlt => ?_, fun hge => ?_⟩
    · have hi2 : i < l.length := by omega
      repeat' ((conv => whnf); (first | refine k0 ?_ | refine jA fun _ => ?_ | refine jB fun _ => ?_ | refine kC (fun _ => ?_) fun _ => ?_ | refine jst ?_ | exact ⟨rfl, rfl⟩ | exact jV | fail))
      · exact ⟨by rw [hasW_y (by rw [← ba_eq ‹l[i].toList = s.toList›]; exact List.getElem_mem hi2)], rfl⟩
      · refine ⟨⟨i + 1, by omega, all_suc hi.2 hi2 (fun e => absurd (congrArg ByteArray.toList e) ‹¬ l[i].toList = s.toList›)⟩, by simp only; omega, ?_⟩
        exact jw []
    · obtain rfl : i = l.length := by omega
      repeat' ((conv => whnf); (first | refine k0 ?_ | refine jA fun _ => ?_ | refine jB fun _ => ?_ | refine kC (fun _ => ?_) fun _ => ?_ | refine jst ?_ | exact ⟨rfl, rfl⟩ | exact jV | fail))
      exact ⟨by rw [hasW_n (fun j hj => hi.2 j hj hj)], rfl⟩

theorem cx134 {P : Program} {X : FuncId → List Arg → List (Bool × List Cell) → List (Option (List Cell)) → Prop} {a : List Arg} {Q : List (Bool × List Cell) → List (Option (List Cell)) → Prop} (h : ∃ b vals outs, a = b ∧ D P X (.call 134 b vals outs) ∧ Q vals outs) : CallS P X 134 a Q := ⟨h⟩

set_option maxRecDepth 100000 in
theorem tx129 {s : ByteArray} (hs : s.size ≤ 2000000 := by first | assumption | omega | (simp; done) | (simp; omega)) : T 129 [aS s] [vB (frOk s)] [none] := by
  refine w_call md [] Tryz.func129 rfl ?_
  have hw : wrds.length = 10 := rfl
  repeat' ((conv => whnf); (first | (apply cx150; refine kl tx150 ?_) | refine k0 ?_ | refine jA fun _ => ?_ | refine jB fun _ => ?_ | refine kC (fun _ => ?_) fun _ => ?_ | (apply cx151; refine kl tx151 ?_) | refine jst ?_ | exact ⟨rfl, rfl⟩ | exact jV | fail))
  conv => whnf
  refine loopk (ι := Nat) (fun i => i ≤ 10 ∧ ∀ j (h : j < wrds.length), j < i → wrds[j] ≠ s) (fun i => 10 - i) (0) [0, 5, 6] (fun i => [(7, .v false [i6 i])]) [none, none] ?_
  refine ⟨⟨by omega, by intros; omega⟩, ?_, fun i hi => ?_⟩
  · exact jw []
  · repeat' ((conv => whnf); (first | refine k0 ?_ | (apply cx151; refine kl tx151 ?_) | refine jst ?_ | exact ⟨rfl, rfl⟩ | exact jV | fail))
    conv => whnf
    refine ⟨fun hlt => ?_, fun hge => ?_⟩
    · have hi2 : i < wrds.length := by omega
      repeat' ((conv => whnf); (first | refine k0 ?_ | refine jA fun _ => ?_ | refine jB fun _ => ?_ | refine kC (fun _ => ?_) fun _ => ?_ | (apply cx151; refine kl tx151 ?_) | refine jst ?_ | exact ⟨rfl, rfl⟩ | exact jV | fail))
      · exact ⟨by rw [frOk_w (by rw [← ba_eq ‹wrds[i].toList = s.toList›]; exact List.getElem_mem hi2)], rfl⟩
      · refine ⟨⟨i + 1, by omega, all_suc hi.2 hi2 (fun e => absurd (congrArg ByteArray.toList e) ‹¬ wrds[i].toList = s.toList›)⟩, by simp only; omega, ?_⟩
        exact jw []
    · obtain rfl : i = 10 := by omega
      have hn : frOk s = nmOk s := frOk_f fun q => by
        obtain ⟨j, hj, e⟩ := List.getElem_of_mem q
        exact hi.2 j hj (by omega) e
      rw [hn]
      repeat' ((conv => whnf); (first | refine k0 ?_ | refine jA fun _ => ?_ | refine jB fun _ => ?_ | refine kC (fun _ => ?_) fun _ => ?_ | (apply cx151; refine kl tx151 ?_) | refine jst ?_ | exact ⟨rfl, rfl⟩ | exact jV | fail))
      all_goals exact ⟨by rw [‹nmOk s = _›], rfl⟩

theorem cx129 {P : Program} {X : FuncId → List Arg → List (Bool × List Cell) → List (Option (List Cell)) → Prop} {a : List Arg} {Q : List (Bool × List Cell) → List (Option (List Cell)) → Prop} (h : ∃ b vals outs, a = b ∧ D P X (.call 129 b vals outs) ∧ Q vals outs) : CallS P X 129 a Q := ⟨h⟩

set_option maxRecDepth 100000 in
theorem tx108 {s : ByteArray} (hs : s.size ≤ 2000000 := by first | assumption | omega | (simp; done) | (simp; omega)) : T 108 [aS s] [vB (frOk s)] [none] := by
  refine w_call md [] Tryz.func108 rfl ?_
  have hw : wrds.length = 10 := rfl
  rw [fr_has]
  repeat' ((conv => whnf); (first | (apply cx134; refine kl (tx134 (l := wrds) (s := s)) ?_) | refine ⟨snc (o := true) (xs := wrds), _, snr (o := true) (xs := wrds), ?_⟩ | refine k0 ?_ | refine jA fun _ => ?_ | refine jB fun _ => ?_ | refine kC (fun _ => ?_) fun _ => ?_ | (apply cx133; refine kl tx133 ?_) | (apply cx134; refine kl tx134 ?_) | refine jst ?_ | exact ⟨rfl, rfl⟩ | exact jV | fail))
  all_goals exact ⟨by simp [*], rfl⟩

theorem cx108 {P : Program} {X : FuncId → List Arg → List (Bool × List Cell) → List (Option (List Cell)) → Prop} {a : List Arg} {Q : List (Bool × List Cell) → List (Option (List Cell)) → Prop} (h : ∃ b vals outs, a = b ∧ D P X (.call 108 b vals outs) ∧ Q vals outs) : CallS P X 108 a Q := ⟨h⟩
end

section
open Go Go.RowKit Go.IntWalk

open Enc (sz cs)

attribute [local irreducible] IntKind.wrap

/-! ### The data of tables -/

structure Vl where
  k : Int
  n : Int
  s : ByteArray

structure Cl where
  name : ByteArray
  type : Int
  null : Bool

structure By where
  col : Int
  desc : Bool

structure Ix where
  name : ByteArray
  uniq : Bool
  parts : List By

structure Df where
  name : ByteArray
  cols : List Cl
  prim : List By
  idx : List Ix

structure Prt where
  col : Int
  type : Int
  null : Bool
  desc : Bool

structure Opn where
  kind : Int
  t : Int
  row : List Vl

abbrev vlC (v : Vl) : List Cell := [i6 v.k, i6 v.n, s1 v.s]

abbrev coC (c : Cl) : List Cell := [s1 c.name, i6 c.type, b1 c.null]

abbrev bpC (b : By) : List Cell := [i6 b.col, b1 b.desc]

abbrev prtC (p : Prt) : List Cell := [i6 p.col, i6 p.type, b1 p.null, b1 p.desc]

instance : Enc Vl where
  sz := 3
  cs _ l := l.flatMap vlC
  nil _ := rfl
  app _ xs ys := by simp
  len _ _ := rfl
  shal _ _ := rfl
  clo _ _ := rfl
  ro _ _ := rfl
  now _ := rfl
  pu _ := rfl

instance : Enc Cl where
  sz := 3
  cs _ l := l.flatMap coC
  nil _ := rfl
  app _ xs ys := by simp
  len _ _ := rfl
  shal _ _ := rfl
  clo _ _ := rfl
  ro _ _ := rfl
  now _ := rfl
  pu _ := rfl

instance : Enc By where
  sz := 2
  cs _ l := l.flatMap bpC
  nil _ := rfl
  app _ xs ys := by simp
  len _ _ := rfl
  shal _ _ := rfl
  clo _ _ := rfl
  ro _ _ := rfl
  now _ := rfl
  pu _ := rfl

instance : Enc Prt where
  sz := 4
  cs _ l := l.flatMap prtC
  nil _ := rfl
  app _ xs ys := by simp
  len _ _ := rfl
  shal _ _ := rfl
  clo _ _ := rfl
  ro _ _ := rfl
  now _ := rfl
  pu _ := rfl

abbrev ixC (o : Bool) (x : Ix) : List Cell := [s1 x.name, b1 x.uniq, slE o x.parts]

instance : Enc Ix where
  sz := 3
  cs o l := l.flatMap (ixC o)
  nil _ := rfl
  app _ xs ys := by simp
  len _ _ := rfl
  shal _ _ := rfl
  clo o x := by
    show (closedL (cs o x.parts) && true) = true
    rw [cs_clo]; rfl
  ro o x := by
    show [s1 x.name, b1 x.uniq, Cell.sl false x.parts.length 2 (roifyL (cs o x.parts))] = _
    rw [cs_ro]; rfl
  now _ := rfl
  pu x := by
    show (pureL (cs true x.parts) && true) = true
    rw [cs_pure]; rfl

abbrev dfC (o : Bool) (d : Df) : List Cell := [s1 d.name, slE o d.cols, slE o d.prim, slE o d.idx]

instance : Enc Df where
  sz := 4
  cs o l := l.flatMap (dfC o)
  nil _ := rfl
  app _ xs ys := by simp
  len _ _ := rfl
  shal _ _ := rfl
  clo o x := by
    show (closedL (cs o x.cols) && (closedL (cs o x.prim) && (closedL (cs o x.idx) && true))) = true
    rw [cs_clo, cs_clo, cs_clo]; rfl
  ro o x := by
    show [s1 x.name, Cell.sl false x.cols.length 3 (roifyL (cs o x.cols)), Cell.sl false x.prim.length 2 (roifyL (cs o x.prim)), Cell.sl false x.idx.length 3 (roifyL (cs o x.idx))] = _
    rw [cs_ro, cs_ro, cs_ro]; rfl
  now _ := rfl
  pu x := by
    show (pureL (cs true x.cols) && (pureL (cs true x.prim) && (pureL (cs true x.idx) && true))) = true
    rw [cs_pure, cs_pure, cs_pure]; rfl

abbrev opC (o : Bool) (x : Opn) : List Cell := [i6 x.kind, i6 x.t, slE o x.row]

instance : Enc Opn where
  sz := 3
  cs o l := l.flatMap (opC o)
  nil _ := rfl
  app _ xs ys := by simp
  len _ _ := rfl
  shal _ _ := rfl
  clo o x := by
    show (closedL (cs o x.row) && true) = true
    rw [cs_clo]; rfl
  ro o x := by
    show [i6 x.kind, i6 x.t, Cell.sl false x.row.length 3 (roifyL (cs o x.row))] = _
    rw [cs_ro]; rfl
  now _ := rfl
  pu x := by
    show (pureL (cs true x.row) && true) = true
    rw [cs_pure]; rfl

@[simp] theorem sz_vl : sz Vl = 3 := rfl

@[simp] theorem sz_cl : sz Cl = 3 := rfl

@[simp] theorem sz_by : sz By = 2 := rfl

@[simp] theorem sz_prt : sz Prt = 4 := rfl

@[simp] theorem sz_ix : sz Ix = 3 := rfl

@[simp] theorem sz_df : sz Df = 4 := rfl

@[simp] theorem sz_op : sz Opn = 3 := rfl

/-! ### Marks and sizes of them -/

abbrev zVl (v : Vl) : Nat := v.s.size

abbrev zRow (r : List Vl) : Nat := r.length + cnt zVl r

abbrev zTab (t : List (List Vl)) : Nat := t.length + cnt zRow t

abbrev zMdb (m : List (List (List Vl))) : Nat := m.length + cnt zTab m

abbrev zCl (c : Cl) : Nat := c.name.size

abbrev zIx (x : Ix) : Nat := x.name.size + x.parts.length

abbrev zDf (d : Df) : Nat := d.name.size + (d.cols.length + cnt zCl d.cols) + d.prim.length + (d.idx.length + cnt zIx d.idx)

abbrev zSc (s : List Df) : Nat := s.length + cnt zDf s

structure OkDf (d : Df) : Prop where
  cols : d.cols.length ≤ 10000000
  prim : d.prim.length ≤ 10000000
  idx : d.idx.length ≤ 10000000
  parts : ∀ x ∈ d.idx, x.parts.length ≤ 10000000

structure OkTb (t : List (List Vl)) : Prop where
  rows : t.length ≤ 10000000
  row : ∀ r ∈ t, r.length ≤ 10000000

theorem OkDf.of {d : Df} (h : zDf d ≤ 2000000) : OkDf d := by
  unfold zDf at h
  refine ⟨by omega, by omega, by omega, fun x hx => ?_⟩
  have := cnt_mem (c := zIx) hx
  simp only [zIx] at this
  omega

theorem OkSc.of {s : List Df} (h : zSc s ≤ 2000000) : s.length ≤ 2000000 ∧ ∀ d ∈ s, OkDf d := by
  unfold zSc at h
  refine ⟨by omega, fun d hd => .of ?_⟩
  have := cnt_mem (c := zDf) hd
  omega

theorem OkTb.of {t : List (List Vl)} (h : zTab t ≤ 2000000) : OkTb t := by
  unfold zTab at h
  refine ⟨by omega, fun x hx => ?_⟩
  have := cnt_mem (c := zRow) hx
  simp only [zRow] at this
  omega

theorem OkMdb.of {m : List (List (List Vl))} (h : zMdb m ≤ 2000000) : m.length ≤ 2000000 ∧ ∀ t ∈ m, OkTb t := by
  unfold zMdb at h
  refine ⟨by omega, fun d hd => .of ?_⟩
  have := cnt_mem (c := zTab) hd
  omega
end

section
open Go Go.RowKit Go.IntWalk

open Enc (sz cs)

attribute [local irreducible] IntKind.wrap

/-! ### Tables: what is right -/

attribute [local irreducible] frOk nmOk

structure NmsOk (d : Df) : Prop where
  cols : ∀ i (h : i < d.cols.length), frOk d.cols[i].name = true
  idx : ∀ i (h : i < d.idx.length), frOk d.idx[i].name = true
  name : frOk d.name = true

open Classical in
noncomputable def nmsOk (d : Df) : Bool := decide (NmsOk d)

theorem nmsOk_y {d : Df} (h : NmsOk d) : nmsOk d = true := by unfold nmsOk; simp [h]

theorem nmsOk_n {d : Df} (h : ¬ NmsOk d) : nmsOk d = false := by unfold nmsOk; simp [h]

theorem zDf_b {d : Df} (h : zDf d ≤ 2000000) : d.name.size ≤ 2000000 ∧ d.cols.length ≤ 2000000 ∧ d.prim.length ≤ 2000000 ∧ d.idx.length ≤ 2000000 ∧ (∀ i (h : i < d.cols.length), d.cols[i].name.size ≤ 2000000) ∧ ∀ i (h : i < d.idx.length), d.idx[i].name.size ≤ 2000000 ∧ d.idx[i].parts.length ≤ 2000000 := by
  unfold zDf at h
  refine ⟨by omega, by omega, by omega, by omega, fun i hi => ?_, fun i hi => ?_⟩
  · have := cnt_mem (c := zCl) (List.getElem_mem hi)
    simp only [zCl] at this; omega
  · have := cnt_mem (c := zIx) (List.getElem_mem hi)
    simp only [zIx] at this; omega

theorem vB1 {b : Bool} (h : b = true) : [(false, [Cell.prim (Value.bool true)])] = [vB b] := by rw [h]

theorem vB0 {b : Bool} (h : b = false) : [(false, [Cell.prim (Value.bool false)])] = [vB b] := by rw [h]

theorem bft {a : Bool} {P : Prop} (h : a = false) (e : a = true) : P := by rw [h] at e; cases e

open Classical in
noncomputable def bOf (p : Prop) : Bool := decide p

theorem bOf_y {p : Prop} (h : p) : bOf p = true := by unfold bOf; simp [h]

theorem bOf_n {p : Prop} (h : ¬ p) : bOf p = false := by unfold bOf; simp [h]

theorem nbO_1 {p : Prop} (h : ¬ p) : (!bOf p) = true := by rw [bOf_n h]; rfl

theorem nbO_0 {p : Prop} (h : p) : (!bOf p) = false := by rw [bOf_y h]; rfl

theorem bOf_t {p : Prop} (h : bOf p = true) : p := by unfold bOf at h; simpa using h

theorem bOf_f {p : Prop} (h : bOf p = false) : ¬ p := by unfold bOf at h; simpa using h

open Classical in
/-- The first number of which something holds; -1: there is none. -/
noncomputable def fstI (n : Nat) (p : Nat → Prop) : Int := if h : ∃ i, i < n ∧ p i ∧ ∀ j, j < i → ¬ p j then ((Classical.choose h : Nat) : Int) else -1

theorem fstI_at {n : Nat} {p : Nat → Prop} {i : Nat} (hi : i < n) (h : p i) (hn : ∀ j, j < i → ¬ p j) : fstI n p = i := by
  have he : ∃ i, i < n ∧ p i ∧ ∀ j, j < i → ¬ p j := ⟨i, hi, h, hn⟩
  unfold fstI
  rw [dif_pos he]
  have hs := Classical.choose_spec he
  generalize Classical.choose he = k at hs
  obtain ⟨h1, h2, h3⟩ := hs
  have e1 : ¬ k < i := fun q => hn k q h2
  have e2 : ¬ i < k := fun q => h3 i q h
  omega

theorem fstI_no {n : Nat} {p : Nat → Prop} (h : ∀ j, j < n → ¬ p j) : fstI n p = -1 := by
  unfold fstI
  rw [dif_neg]
  rintro ⟨i, h1, h2, _⟩
  exact h i h1 h2

theorem fstI_neg {n : Nat} {p : Nat → Prop} (h : fstI n p = -1) : ∀ j, j < n → ¬ p j := by
  intro j
  induction j using Nat.strongRecOn with
  | _ j ih =>
    intro hj q
    have := fstI_at hj q (fun k hk => ih k hk (by omega))
    rw [this] at h; omega

structure TypOk (d : Df) : Prop where
  len : inB d.cols.length 1 6 = true
  type : ∀ i (h : i < d.cols.length), inB d.cols[i].type 1 4 = true

noncomputable abbrev typOk (d : Df) : Bool := bOf (TypOk d)

structure OncOk (d : Df) : Prop where
  cols : ∀ i (h : i < d.cols.length) j (hj : j < i), d.cols[j].name ≠ d.cols[i].name
  idx : ∀ i (h : i < d.idx.length) j (hj : j < i), d.idx[j].name ≠ d.idx[i].name

noncomputable abbrev oncOk (d : Df) : Bool := bOf (OncOk d)

abbrev PrtI (n : Nat) (l : List By) (i : Nat) (h : i < l.length) : Prop := inB l[i].col 0 ((n : Int) - 1) = true ∧ ∀ j (hj : j < i), l[j].col ≠ l[i].col

structure PrtOk (n : Nat) (l : List By) : Prop where
  len : inB l.length 1 2 = true
  prt : ∀ i (h : i < l.length), PrtI n l i h

noncomputable abbrev prtOk (n : Nat) (l : List By) : Bool := bOf (PrtOk n l)

structure AllOk (d : Df) : Prop where
  idx : ∀ i (h : i < d.idx.length), prtOk d.cols.length d.idx[i].parts = true
  prim : prtOk d.cols.length d.prim = true

noncomputable abbrev allOk (d : Df) : Bool := bOf (AllOk d)

abbrev nulI (d : Df) (i : Nat) (h : i < d.prim.length) : Prop := ∃ h2 : d.prim[i].col.toNat < d.cols.length, d.cols[d.prim[i].col.toNat].null = true

abbrev NulP (d : Df) : Prop := ∃ i, ∃ h : i < d.prim.length, nulI d i h

/-- What is wrong with a table. -/
noncomputable def cdN (d : Df) : Int :=
  if nmsOk d = false then 1 else if typOk d = false then 2 else if oncOk d = false then 3 else if 2 < d.idx.length then 6 else
  if allOk d = false then 5 else if bOf (NulP d) = true then 4 else 0

section

variable {d : Df}

theorem cdN_1 (h : nmsOk d = false) : cdN d = 1 := if_pos h

theorem cdN_2 (h1 : nmsOk d = true) (h : typOk d = false) : cdN d = 2 := by unfold cdN; rw [h1, if_neg (by decide), if_pos h]

theorem cdN_3 (h1 : nmsOk d = true) (h2 : typOk d = true) (h : oncOk d = false) : cdN d = 3 := by unfold cdN; rw [h1, if_neg (by decide), h2, if_neg (by decide), if_pos h]

theorem cdN_6 (h1 : nmsOk d = true) (h2 : typOk d = true) (h3 : oncOk d = true) (h : 2 < d.idx.length) : cdN d = 6 := by unfold cdN; rw [h1, if_neg (by decide), h2, if_neg (by decide), h3, if_neg (by decide), if_pos h]

theorem cdN_5 (h1 : nmsOk d = true) (h2 : typOk d = true) (h3 : oncOk d = true) (h4 : ¬ 2 < d.idx.length) (h : allOk d = false) : cdN d = 5 := by unfold cdN; rw [h1, if_neg (by decide), h2, if_neg (by decide), h3, if_neg (by decide), if_neg h4, if_pos h]

theorem cdN_4 (h1 : nmsOk d = true) (h2 : typOk d = true) (h3 : oncOk d = true) (h4 : ¬ 2 < d.idx.length) (h5 : allOk d = true) (h : NulP d) : cdN d = 4 := by unfold cdN; rw [h1, if_neg (by decide), h2, if_neg (by decide), h3, if_neg (by decide), if_neg h4, h5, if_neg (by decide), if_pos (bOf_y h)]

theorem cdN_0 (h1 : nmsOk d = true) (h2 : typOk d = true) (h3 : oncOk d = true) (h4 : ¬ 2 < d.idx.length) (h5 : allOk d = true) (h : ¬ NulP d) : cdN d = 0 := by unfold cdN; rw [h1, if_neg (by decide), h2, if_neg (by decide), h3, if_neg (by decide), if_neg h4, h5, if_neg (by decide), bOf_n h, if_neg (by decide)]

end

/-- The first column of a name. -/
noncomputable def colI (l : List Cl) (s : ByteArray) : Int := fstI l.length fun i => ∃ h : i < l.length, l[i].name = s

abbrev badP (s : List Df) (i : Nat) : Prop := 3 ≤ i ∨ ∃ h : i < s.length, cdN s[i] ≠ 0 ∨ ∃ j, ∃ hj : j < i, s[j].name = s[i].name

/-- The first table that is wrong. -/
noncomputable def fbN (s : List Df) : Int := fstI s.length (badP s)

set_option maxRecDepth 100000 in
theorem tx98 {d : Df} (hd : zDf d ≤ 2000000 := by first | assumption | omega | (simp; done) | (simp; omega)) : T 98 [.val true (dfC false d)] [vB (nmsOk d)] [none] := by
  refine w_call md [] Tryz.func98 rfl ?_
  obtain ⟨q1, q2, q3, q4, q5, q6⟩ := zDf_b hd
  repeat' ((conv => whnf); (first | refine k0 ?_ | refine jA fun _ => ?_ | refine jB fun _ => ?_ | refine kC (fun _ => ?_) fun _ => ?_ | (apply cx129; refine kl tx129 ?_) | refine jst ?_ | exact ⟨rfl, rfl⟩ | exact jV | fail))
  conv => whnf
  refine loopk (ι := Nat) (fun i => i ≤ d.cols.length ∧ ∀ j (h : j < d.cols.length), j < i → frOk d.cols[j].name = true) (fun i => d.cols.length - i) (0) [1, 8, 9] (fun i => [(10, .v false [i6 i])]) [none, none] ?_
  refine ⟨⟨by omega, by intros; omega⟩, ?_, fun i hi => ?_⟩
  · exact jw []
  · repeat' ((conv => whnf); (first | refine k0 ?_ | (apply cx129; refine kl tx129 ?_) | refine jst ?_ | exact ⟨rfl, rfl⟩ | exact jV | fail))
    conv => whnf
    refine ⟨fun hlt => ?_, fun hge => ?_⟩
    · have hi2 : i < d.cols.length := by omega
      have hb := q5 i hi2
      repeat' ((conv => whnf); (first | (apply cx129; refine kl (tx129 (s := d.cols[i].name)) ?_) | refine k0 ?_ | refine jA fun _ => ?_ | refine jB fun _ => ?_ | refine kC (fun _ => ?_) fun _ => ?_ | (apply cx129; refine kl tx129 ?_) | refine jst ?_ | exact ⟨rfl, rfl⟩ | exact jV | fail))
      · refine ⟨⟨i + 1, by omega, all_suc hi.2 hi2 ‹_ = true›⟩, by simp only; omega, ?_⟩
        exact jw []
      · exact ⟨by rw [nmsOk_n fun q => bft ‹_ = false› (q.cols i hi2)], rfl⟩
    · obtain rfl : i = d.cols.length := by omega
      have hc : ∀ j (h : j < d.cols.length), frOk d.cols[j].name = true := fun j h => hi.2 j h h
      repeat' ((conv => whnf); (first | refine k0 ?_ | refine jA fun _ => ?_ | refine jB fun _ => ?_ | refine kC (fun _ => ?_) fun _ => ?_ | (apply cx129; refine kl tx129 ?_) | refine jst ?_ | exact ⟨rfl, rfl⟩ | exact jV | fail))
      conv => whnf
      refine loopk (ι := Nat) (fun i => i ≤ d.idx.length ∧ ∀ j (h : j < d.idx.length), j < i → frOk d.idx[j].name = true) (fun i => d.idx.length - i) (0) [1, 20, 21] (fun i => [(22, .v false [i6 i])]) [none, none] ?_
      refine ⟨⟨by omega, by intros; omega⟩, ?_, fun i hi => ?_⟩
      · exact jw []
      · repeat' ((conv => whnf); (first | refine k0 ?_ | (apply cx129; refine kl tx129 ?_) | refine jst ?_ | exact ⟨rfl, rfl⟩ | exact jV | fail))
        conv => whnf
        refine ⟨fun hlt => ?_, fun hge => ?_⟩
        · have hi2 : i < d.idx.length := by omega
          have hb := (q6 i hi2).1
          repeat' ((conv => whnf); (first | (apply cx129; refine kl (tx129 (s := d.idx[i].name)) ?_) | refine k0 ?_ | refine jA fun _ => ?_ | refine jB fun _ => ?_ | refine kC (fun _ => ?_) fun _ => ?_ | (apply cx129; refine kl tx129 ?_) | refine jst ?_ | exact ⟨rfl, rfl⟩ | exact jV | fail))
          · refine ⟨⟨i + 1, by omega, all_suc hi.2 hi2 ‹_ = true›⟩, by simp only; omega, ?_⟩
            exact jw []
          · exact ⟨by rw [nmsOk_n fun q => bft ‹_ = false› (q.idx i hi2)], rfl⟩
        · obtain rfl : i = d.idx.length := by omega
          repeat' ((conv => whnf); (first | (apply cx129; refine kl (tx129 (s := d.name)) ?_) | refine k0 ?_ | refine jA fun _ => ?_ | refine jB fun _ => ?_ | refine kC (fun _ => ?_) fun _ => ?_ | (apply cx129; refine kl tx129 ?_) | refine jst ?_ | exact ⟨rfl, rfl⟩ | exact jV | fail))
          · exact ⟨by rw [nmsOk_y ⟨hc, fun j h => hi.2 j h h, ‹_ = true›⟩], rfl⟩
          · exact ⟨by rw [nmsOk_n fun q => bft ‹_ = false› q.name], rfl⟩

theorem cx98 {P : Program} {X : FuncId → List Arg → List (Bool × List Cell) → List (Option (List Cell)) → Prop} {a : List Arg} {Q : List (Bool × List Cell) → List (Option (List Cell)) → Prop} (h : ∃ b vals outs, a = b ∧ D P X (.call 98 b vals outs) ∧ Q vals outs) : CallS P X 98 a Q := ⟨h⟩

set_option maxRecDepth 100000 in
theorem tx75 {d : Df} (hd : zDf d ≤ 2000000 := by first | assumption | omega | (simp; done) | (simp; omega)) : T 75 [.val true (dfC false d)] [vB (nmsOk d)] [none] := by
  refine w_call md [] Tryz.func75 rfl ?_
  obtain ⟨q1, q2, q3, q4, q5, q6⟩ := zDf_b hd
  repeat' ((conv => whnf); (first | refine k0 ?_ | refine jA fun _ => ?_ | refine jB fun _ => ?_ | refine kC (fun _ => ?_) fun _ => ?_ | (apply cx108; refine kl tx108 ?_) | refine jst ?_ | exact ⟨rfl, rfl⟩ | exact jV | fail))
  conv => whnf
  refine loopk (ι := Nat) (fun i => i ≤ d.cols.length ∧ ∀ j (h : j < d.cols.length), j < i → frOk d.cols[j].name = true) (fun i => d.cols.length - i) (0) [1] (fun i => [(3, .v false [i6 i])]) [none, none] ?_
  refine ⟨⟨by omega, by intros; omega⟩, ?_, fun i hi => ?_⟩
  · exact jw []
  · repeat' ((conv => whnf); (first | refine k0 ?_ | (apply cx108; refine kl tx108 ?_) | refine jst ?_ | exact ⟨rfl, rfl⟩ | exact jV | fail))
    conv => whnf
    refine ⟨fun hlt => ?_, fun hge => ?_⟩
    · have hi2 : i < d.cols.length := by omega
      have hb := q5 i hi2
      repeat' ((conv => whnf); (first | (apply cx108; refine kl (tx108 (s := d.cols[i].name)) ?_) | refine k0 ?_ | refine jA fun _ => ?_ | refine jB fun _ => ?_ | refine kC (fun _ => ?_) fun _ => ?_ | (apply cx108; refine kl tx108 ?_) | refine jst ?_ | exact ⟨rfl, rfl⟩ | exact jV | fail))
      · refine ⟨⟨i + 1, by omega, all_suc hi.2 hi2 ‹_ = true›⟩, by simp only; omega, ?_⟩
        exact jw []
      · exact ⟨by rw [nmsOk_n fun q => bft ‹_ = false› (q.cols i hi2)], rfl⟩
    · obtain rfl : i = d.cols.length := by omega
      have hc : ∀ j (h : j < d.cols.length), frOk d.cols[j].name = true := fun j h => hi.2 j h h
      repeat' ((conv => whnf); (first | refine k0 ?_ | refine jA fun _ => ?_ | refine jB fun _ => ?_ | refine kC (fun _ => ?_) fun _ => ?_ | (apply cx108; refine kl tx108 ?_) | refine jst ?_ | exact ⟨rfl, rfl⟩ | exact jV | fail))
      conv => whnf
      refine loopk (ι := Nat) (fun i => i ≤ d.idx.length ∧ ∀ j (h : j < d.idx.length), j < i → frOk d.idx[j].name = true) (fun i => d.idx.length - i) (0) [1] (fun i => [(4, .v false [i6 i])]) [none, none] ?_
      refine ⟨⟨by omega, by intros; omega⟩, ?_, fun i hi => ?_⟩
      · exact jw []
      · repeat' ((conv => whnf); (first | refine k0 ?_ | (apply cx108; refine kl tx108 ?_) | refine jst ?_ | exact ⟨rfl, rfl⟩ | exact jV | fail))
        conv => whnf
        refine ⟨fun hlt => ?_, fun hge => ?_⟩
        · have hi2 : i < d.idx.length := by omega
          have hb := (q6 i hi2).1
          repeat' ((conv => whnf); (first | (apply cx108; refine kl (tx108 (s := d.idx[i].name)) ?_) | refine k0 ?_ | refine jA fun _ => ?_ | refine jB fun _ => ?_ | refine kC (fun _ => ?_) fun _ => ?_ | (apply cx108; refine kl tx108 ?_) | refine jst ?_ | exact ⟨rfl, rfl⟩ | exact jV | fail))
          · refine ⟨⟨i + 1, by omega, all_suc hi.2 hi2 ‹_ = true›⟩, by simp only; omega, ?_⟩
            exact jw []
          · exact ⟨by rw [nmsOk_n fun q => bft ‹_ = false› (q.idx i hi2)], rfl⟩
        · obtain rfl : i = d.idx.length := by omega
          repeat' ((conv => whnf); (first | (apply cx108; refine kl (tx108 (s := d.name)) ?_) | refine k0 ?_ | refine jA fun _ => ?_ | refine jB fun _ => ?_ | refine kC (fun _ => ?_) fun _ => ?_ | (apply cx108; refine kl tx108 ?_) | refine jst ?_ | exact ⟨rfl, rfl⟩ | exact jV | fail))
          · exact ⟨by rw [nmsOk_y ⟨hc, fun j h => hi.2 j h h, ‹_ = true›⟩], rfl⟩
          · exact ⟨by rw [nmsOk_n fun q => bft ‹_ = false› q.name], rfl⟩

theorem cx75 {P : Program} {X : FuncId → List Arg → List (Bool × List Cell) → List (Option (List Cell)) → Prop} {a : List Arg} {Q : List (Bool × List Cell) → List (Option (List Cell)) → Prop} (h : ∃ b vals outs, a = b ∧ D P X (.call 75 b vals outs) ∧ Q vals outs) : CallS P X 75 a Q := ⟨h⟩

set_option maxRecDepth 100000 in
theorem tx76 {d : Df} (hd : zDf d ≤ 2000000 := by first | assumption | omega | (simp; done) | (simp; omega)) : T 76 [.val true (dfC false d)] [vB (typOk d)] [none] := by
  refine w_call md [] Tryz.func76 rfl ?_
  obtain ⟨q1, q2, q3, q4, q5, q6⟩ := zDf_b hd
  repeat' ((conv => whnf); (first | refine k0 ?_ | refine jA fun _ => ?_ | refine jB fun _ => ?_ | refine kC (fun _ => ?_) fun _ => ?_ | (apply cx39; refine kl tx39 ?_) | refine jst ?_ | exact ⟨rfl, rfl⟩ | exact jV | fail))
  conv => whnf
  refine loopk (ι := Nat) (fun i => i ≤ d.cols.length ∧ ∀ j (h : j < d.cols.length), j < i → inB d.cols[j].type 1 4 = true) (fun i => d.cols.length - i) (0) [1] (fun i => [(3, .v false [i6 i])]) [none, none] ?_
  refine ⟨⟨by omega, by intros; omega⟩, ?_, fun i hi => ?_⟩
  · exact jw []
  · repeat' ((conv => whnf); (first | refine k0 ?_ | (apply cx39; refine kl tx39 ?_) | refine jst ?_ | exact ⟨rfl, rfl⟩ | exact jV | fail))
    conv => whnf
    refine ⟨fun hlt => ?_, fun hge => ?_⟩
    · have hi2 : i < d.cols.length := by omega
      repeat' ((conv => whnf); (first | refine k0 ?_ | refine jA fun _ => ?_ | refine jB fun _ => ?_ | refine kC (fun _ => ?_) fun _ => ?_ | (apply cx39; refine kl tx39 ?_) | refine jst ?_ | exact ⟨rfl, rfl⟩ | exact jV | fail))
      · refine ⟨⟨i + 1, by omega, all_suc hi.2 hi2 ‹_ = true›⟩, by simp only; omega, ?_⟩
        exact jw []
      · exact ⟨vB0 (bOf_n fun q => bft ‹_ = false› (q.type i hi2)), rfl⟩
    · obtain rfl : i = d.cols.length := by omega
      repeat' ((conv => whnf); (first | refine k0 ?_ | refine jA fun _ => ?_ | refine jB fun _ => ?_ | refine kC (fun _ => ?_) fun _ => ?_ | (apply cx39; refine kl tx39 ?_) | refine jst ?_ | exact ⟨rfl, rfl⟩ | exact jV | fail))
      · exact ⟨vB1 (bOf_y ⟨‹_ = true›, fun j h => hi.2 j h h⟩), rfl⟩
      · exact ⟨vB0 (bOf_n fun q => bft ‹_ = false› q.len), rfl⟩

theorem cx76 {P : Program} {X : FuncId → List Arg → List (Bool × List Cell) → List (Option (List Cell)) → Prop} {a : List Arg} {Q : List (Bool × List Cell) → List (Option (List Cell)) → Prop} (h : ∃ b vals outs, a = b ∧ D P X (.call 76 b vals outs) ∧ Q vals outs) : CallS P X 76 a Q := ⟨h⟩

set_option maxRecDepth 100000 in
theorem tx109 {d : Df} {s : ByteArray} (hd : zDf d ≤ 2000000 := by first | assumption | omega | (simp; done) | (simp; omega)) : T 109 [.val true (dfC false d), aS s] [vI (colI d.cols s)] [none, none] := by
  refine w_call md [] Tryz.func109 rfl ?_
  obtain ⟨q1, q2, q3, q4, q5, q6⟩ := zDf_b hd
  repeat' ((conv => whnf); (first | refine k0 ?_ | refine jA fun _ => ?_ | refine jB fun _ => ?_ | refine kC (fun _ => ?_) fun _ => ?_ | refine jst ?_ | exact ⟨rfl, rfl⟩ | exact jV | fail))
  conv => whnf
  refine loopk (ι := Nat) (fun i => i ≤ d.cols.length ∧ ∀ j (h : j < d.cols.length), j < i → d.cols[j].name ≠ s) (fun i => d.cols.length - i) (0) [1, 2] (fun i => [(5, .v false [i6 i])]) [none, none, none] ?_
  refine ⟨⟨by omega, by intros; omega⟩, ?_, fun i hi => ?_⟩
  · exact jw []
  · repeat' ((conv => whnf); (first | refine k0 ?_ | refine jst ?_ | exact ⟨rfl, rfl⟩ | exact jV | fail))
    conv => whnf
    refine ⟨fun hlt => ?_, fun hge => ?_⟩
    · have hi2 : i < d.cols.length := by omega
      repeat' ((conv => whnf); (first | refine k0 ?_ | refine jA fun _ => ?_ | refine jB fun _ => ?_ | refine kC (fun _ => ?_) fun _ => ?_ | refine jst ?_ | exact ⟨rfl, rfl⟩ | exact jV | fail))
      · have e : colI d.cols s = i := fstI_at hi2 ⟨hi2, ba_eq ‹_›⟩ (fun j hj q => by
          obtain ⟨hq, q⟩ := q
          exact hi.2 j hq hj q)
        exact ⟨by rw [e], rfl⟩
      · refine ⟨⟨i + 1, by omega, all_suc hi.2 hi2 (fun e => absurd (congrArg ByteArray.toList e) ‹_›)⟩, by simp only; omega, ?_⟩
        exact jw []
    · obtain rfl : i = d.cols.length := by omega
      have e : colI d.cols s = -1 := fstI_no (fun j hj q => by
        obtain ⟨hq, q⟩ := q
        exact hi.2 j hq hj q)
      repeat' ((conv => whnf); (first | refine k0 ?_ | refine jA fun _ => ?_ | refine jB fun _ => ?_ | refine kC (fun _ => ?_) fun _ => ?_ | refine jst ?_ | exact ⟨rfl, rfl⟩ | exact jV | fail))

theorem cx109 {P : Program} {X : FuncId → List Arg → List (Bool × List Cell) → List (Option (List Cell)) → Prop} {a : List Arg} {Q : List (Bool × List Cell) → List (Option (List Cell)) → Prop} (h : ∃ b vals outs, a = b ∧ D P X (.call 109 b vals outs) ∧ Q vals outs) : CallS P X 109 a Q := ⟨h⟩

set_option maxRecDepth 100000 in
theorem tx99 {d : Df} (hd : zDf d ≤ 2000000 := by first | assumption | omega | (simp; done) | (simp; omega)) : T 99 [.val true (dfC false d)] [vB (!oncOk d)] [none] := by
  refine w_call md [] Tryz.func99 rfl ?_
  obtain ⟨q1, q2, q3, q4, q5, q6⟩ := zDf_b hd
  repeat' ((conv => whnf); (first | refine k0 ?_ | refine jA fun _ => ?_ | refine jB fun _ => ?_ | refine kC (fun _ => ?_) fun _ => ?_ | refine jst ?_ | exact ⟨rfl, rfl⟩ | exact jV | fail))
  conv => whnf
  refine loopk (ι := Nat) (fun i => i ≤ d.cols.length ∧ ∀ j (h : j < d.cols.length), j < i → ∀ k (hk : k < j), d.cols[k].name ≠ d.cols[j].name) (fun i => d.cols.length - i) (0) [1, 12, 13] (fun i => [(14, .v false [i6 i])]) [none, none] ?_
  refine ⟨⟨by omega, by intros; omega⟩, ?_, fun a ha => ?_⟩
  · exact jw []
  · repeat' ((conv => whnf); (first | refine k0 ?_ | refine jst ?_ | exact ⟨rfl, rfl⟩ | exact jV | fail))
    conv => whnf
    refine ⟨fun hlt => ?_, fun hge => ?_⟩
    · have ha2 : a < d.cols.length := by omega
      have htk : (d.cols.take a).length = a := by rw [List.length_take]; omega
      repeat' ((conv => whnf); (first | refine Exists.intro _ (Exists.intro _ (Exists.intro _ (And.intro rfl (And.intro bndN (And.intro (sl_to (by omega)) ?_))))) | refine k0 ?_ | refine jA fun _ => ?_ | refine jB fun _ => ?_ | refine kC (fun _ => ?_) fun _ => ?_ | refine jst ?_ | exact ⟨rfl, rfl⟩ | exact jV | fail))
      conv => whnf
      refine loopk (ι := Nat) (fun i => i ≤ a ∧ ∀ k (hk : k < a), k < i → d.cols[k].name ≠ d.cols[a].name) (fun i => a - i) (0) [1, 4, 12, 13, 14, 22, 23] (fun i => [(24, .v false [i6 i])]) [none, none, none] ?_
      refine ⟨⟨by omega, by intros; omega⟩, ?_, fun b hb => ?_⟩
      · exact jw []
      · repeat' ((conv => whnf); (first | refine k0 ?_ | refine jst ?_ | exact ⟨rfl, rfl⟩ | exact jV | fail))
        conv => whnf
        refine ⟨fun hlt => ?_, fun hge => ?_⟩
        · have hb2 : b < (d.cols.take a).length := by omega
          have hb3 : b < a := by omega
          have eg : (d.cols.take a)[b] = d.cols[b] := List.getElem_take
          repeat' ((conv => whnf); (first | refine k0 ?_ | refine jA fun _ => ?_ | refine jB fun _ => ?_ | refine kC (fun _ => ?_) fun _ => ?_ | refine jst ?_ | exact ⟨rfl, rfl⟩ | exact jV | fail))
          · have e : d.cols[b].name = d.cols[a].name := by rw [← eg]; exact ba_eq ‹_›
            exact ⟨vB1 (nbO_1 fun q => q.cols a ha2 b hb3 e), rfl⟩
          · have e : d.cols[b].name ≠ d.cols[a].name := fun e => absurd (congrArg ByteArray.toList e) (by rw [← eg]; assumption)
            refine ⟨⟨b + 1, by omega, all_suc hb.2 hb3 e⟩, by simp only; omega, ?_⟩
            exact jw []
        · obtain rfl : b = a := by omega
          repeat' ((conv => whnf); (first | refine k0 ?_ | refine jA fun _ => ?_ | refine jB fun _ => ?_ | refine kC (fun _ => ?_) fun _ => ?_ | refine jst ?_ | exact ⟨rfl, rfl⟩ | exact jV | fail))
          refine ⟨⟨b + 1, by omega, all_suc ha.2 ha2 (fun k hk => hb.2 k hk hk)⟩, by simp only; omega, ?_⟩
          exact jw []
    · obtain rfl : a = d.cols.length := by omega
      have hcc : ∀ i (h : i < d.cols.length) j (hj : j < i), d.cols[j].name ≠ d.cols[i].name := fun i h j hj => ha.2 i h h j hj
      repeat' ((conv => whnf); (first | refine k0 ?_ | refine jA fun _ => ?_ | refine jB fun _ => ?_ | refine kC (fun _ => ?_) fun _ => ?_ | refine jst ?_ | exact ⟨rfl, rfl⟩ | exact jV | fail))
      conv => whnf
      refine loopk (ι := Nat) (fun i => i ≤ d.idx.length ∧ ∀ j (h : j < d.idx.length), j < i → ∀ k (hk : k < j), d.idx[k].name ≠ d.idx[j].name) (fun i => d.idx.length - i) (0) [1, 36, 37] (fun i => [(38, .v false [i6 i])]) [none, none] ?_
      refine ⟨⟨by omega, by intros; omega⟩, ?_, fun a ha => ?_⟩
      · exact jw []
      · repeat' ((conv => whnf); (first | refine k0 ?_ | refine jst ?_ | exact ⟨rfl, rfl⟩ | exact jV | fail))
        conv => whnf
        refine ⟨fun hlt => ?_, fun hge => ?_⟩
        · have ha2 : a < d.idx.length := by omega
          have htk : (d.idx.take a).length = a := by rw [List.length_take]; omega
          repeat' ((conv => whnf); (first | refine Exists.intro _ (Exists.intro _ (Exists.intro _ (And.intro rfl (And.intro bndN (And.intro (sl_to (by omega)) ?_))))) | refine k0 ?_ | refine jA fun _ => ?_ | refine jB fun _ => ?_ | refine kC (fun _ => ?_) fun _ => ?_ | refine jst ?_ | exact ⟨rfl, rfl⟩ | exact jV | fail))
          conv => whnf
          refine loopk (ι := Nat) (fun i => i ≤ a ∧ ∀ k (hk : k < a), k < i → d.idx[k].name ≠ d.idx[a].name) (fun i => a - i) (0) [1, 8, 36, 37, 38, 46, 47] (fun i => [(48, .v false [i6 i])]) [none, none, none] ?_
          refine ⟨⟨by omega, by intros; omega⟩, ?_, fun b hb => ?_⟩
          · exact jw []
          · repeat' ((conv => whnf); (first | refine k0 ?_ | refine jst ?_ | exact ⟨rfl, rfl⟩ | exact jV | fail))
            conv => whnf
            refine ⟨fun hlt => ?_, fun hge => ?_⟩
            · have hb2 : b < (d.idx.take a).length := by omega
              have hb3 : b < a := by omega
              have eg : (d.idx.take a)[b] = d.idx[b] := List.getElem_take
              repeat' ((conv => whnf); (first | refine k0 ?_ | refine jA fun _ => ?_ | refine jB fun _ => ?_ | refine kC (fun _ => ?_) fun _ => ?_ | refine jst ?_ | exact ⟨rfl, rfl⟩ | exact jV | fail))
              · have e : d.idx[b].name = d.idx[a].name := by rw [← eg]; exact ba_eq ‹_›
                exact ⟨vB1 (nbO_1 fun q => q.idx a ha2 b hb3 e), rfl⟩
              · have e : d.idx[b].name ≠ d.idx[a].name := fun e => absurd (congrArg ByteArray.toList e) (by rw [← eg]; assumption)
                refine ⟨⟨b + 1, by omega, all_suc hb.2 hb3 e⟩, by simp only; omega, ?_⟩
                exact jw []
            · obtain rfl : b = a := by omega
              repeat' ((conv => whnf); (first | refine k0 ?_ | refine jA fun _ => ?_ | refine jB fun _ => ?_ | refine kC (fun _ => ?_) fun _ => ?_ | refine jst ?_ | exact ⟨rfl, rfl⟩ | exact jV | fail))
              refine ⟨⟨b + 1, by omega, all_suc ha.2 ha2 (fun k hk => hb.2 k hk hk)⟩, by simp only; omega, ?_⟩
              exact jw []
        · obtain rfl : a = d.idx.length := by omega
          repeat' ((conv => whnf); (first | refine k0 ?_ | refine jA fun _ => ?_ | refine jB fun _ => ?_ | refine kC (fun _ => ?_) fun _ => ?_ | refine jst ?_ | exact ⟨rfl, rfl⟩ | exact jV | fail))
          exact ⟨vB0 (nbO_0 ⟨hcc, fun i h j hj => ha.2 i h h j hj⟩), rfl⟩

theorem cx99 {P : Program} {X : FuncId → List Arg → List (Bool × List Cell) → List (Option (List Cell)) → Prop} {a : List Arg} {Q : List (Bool × List Cell) → List (Option (List Cell)) → Prop} (h : ∃ b vals outs, a = b ∧ D P X (.call 99 b vals outs) ∧ Q vals outs) : CallS P X 99 a Q := ⟨h⟩

set_option maxRecDepth 100000 in
theorem tx77 {d : Df} (hd : zDf d ≤ 2000000 := by first | assumption | omega | (simp; done) | (simp; omega)) : T 77 [.val true (dfC false d)] [vB (oncOk d)] [none] := by
  refine w_call md [] Tryz.func77 rfl ?_
  obtain ⟨q1, q2, q3, q4, q5, q6⟩ := zDf_b hd
  repeat' ((conv => whnf); (first | refine k0 ?_ | refine jA fun _ => ?_ | refine jB fun _ => ?_ | refine kC (fun _ => ?_) fun _ => ?_ | (apply cx109; refine kl tx109 ?_) | refine jst ?_ | exact ⟨rfl, rfl⟩ | exact jV | fail))
  conv => whnf
  refine loopk (ι := Nat) (fun i => i ≤ d.cols.length ∧ ∀ j (h : j < d.cols.length), j < i → ∀ k (hk : k < j), d.cols[k].name ≠ d.cols[j].name) (fun i => d.cols.length - i) (0) [1] (fun i => [(3, .v false [i6 i])]) [none, none] ?_
  refine ⟨⟨by omega, by intros; omega⟩, ?_, fun a ha => ?_⟩
  · exact jw []
  · repeat' ((conv => whnf); (first | refine k0 ?_ | (apply cx109; refine kl tx109 ?_) | refine jst ?_ | exact ⟨rfl, rfl⟩ | exact jV | fail))
    conv => whnf
    refine ⟨fun hlt => ?_, fun hge => ?_⟩
    · have ha2 : a < d.cols.length := by omega
      by_cases hf : ∀ k (hk : k < a), d.cols[k].name ≠ d.cols[a].name
      · have hC : T 109 [.val true (dfC false d), aS d.cols[a].name] [vI (a : Int)] [none, none] := by
          have h := tx109 (d := d) (s := d.cols[a].name)
          rwa [show colI d.cols d.cols[a].name = (a : Int) from fstI_at ha2 ⟨ha2, rfl⟩ (fun j hj q => by
            obtain ⟨_, q⟩ := q
            exact hf j hj q)] at h
        repeat' ((conv => whnf); (first | (apply cx109; refine kl (hC) ?_) | refine k0 ?_ | refine jA fun _ => ?_ | refine jB fun _ => ?_ | refine kC (fun _ => ?_) fun _ => ?_ | (apply cx109; refine kl tx109 ?_) | refine jst ?_ | exact ⟨rfl, rfl⟩ | exact jV | fail))
        refine ⟨⟨a + 1, by omega, all_suc ha.2 ha2 hf⟩, by simp only; omega, ?_⟩
        exact jw []
      · have hne : colI d.cols d.cols[a].name ≠ (a : Int) := fun q => by
          refine hf fun k hk e => ?_
          have hex : ∃ i, i < d.cols.length ∧ (∃ h : i < d.cols.length, d.cols[i].name = d.cols[a].name) ∧ ∀ j, j < i → ¬ ∃ h : j < d.cols.length, d.cols[j].name = d.cols[a].name := by
            have : ∀ n, ∀ k, k ≤ n → (∃ h : k < d.cols.length, d.cols[k].name = d.cols[a].name) → ∃ i, i ≤ k ∧ (∃ h : i < d.cols.length, d.cols[i].name = d.cols[a].name) ∧ ∀ j, j < i → ¬ ∃ h : j < d.cols.length, d.cols[j].name = d.cols[a].name := by
              intro n
              induction n with
              | zero => intro k hk q; exact ⟨k, Nat.le_refl _, q, fun j hj => by omega⟩
              | succ n ih =>
                intro k hk q
                by_cases hx : ∃ j, j < k ∧ ∃ h : j < d.cols.length, d.cols[j].name = d.cols[a].name
                · obtain ⟨j, hj, q2⟩ := hx
                  obtain ⟨i, h1, h2⟩ := ih j (by omega) q2
                  exact ⟨i, by omega, h2⟩
                · exact ⟨k, Nat.le_refl _, q, fun j hj q2 => hx ⟨j, hj, q2⟩⟩
            obtain ⟨i, h1, ⟨h2, h3⟩, h4⟩ := this k k (Nat.le_refl _) ⟨by omega, e⟩
            exact ⟨i, h2, ⟨h2, h3⟩, h4⟩
          obtain ⟨i, h1, h2, h3⟩ := hex
          have e2 : colI d.cols d.cols[a].name = (i : Int) := fstI_at h1 h2 h3
          have e3 : i = a := by rw [e2] at q; omega
          subst e3
          exact h3 k hk ⟨by omega, e⟩
        repeat' ((conv => whnf); (first | (apply cx109; refine kl (tx109 (d := d) (s := d.cols[a].name)) ?_) | refine k0 ?_ | refine jA fun _ => ?_ | refine jB fun _ => ?_ | refine kC (fun _ => ?_) fun _ => ?_ | (apply cx109; refine kl tx109 ?_) | refine jst ?_ | exact ⟨rfl, rfl⟩ | exact jV | fail))
        exact ⟨vB0 (bOf_n fun q => hf fun k hk => q.cols a ha2 k hk), rfl⟩
    · obtain rfl : a = d.cols.length := by omega
      have hcc : ∀ i (h : i < d.cols.length) j (hj : j < i), d.cols[j].name ≠ d.cols[i].name := fun i h j hj => ha.2 i h h j hj
      repeat' ((conv => whnf); (first | refine k0 ?_ | refine jA fun _ => ?_ | refine jB fun _ => ?_ | refine kC (fun _ => ?_) fun _ => ?_ | (apply cx109; refine kl tx109 ?_) | refine jst ?_ | exact ⟨rfl, rfl⟩ | exact jV | fail))
      conv => whnf
      refine loopk (ι := Nat) (fun i => i ≤ d.idx.length ∧ ∀ j (h : j < d.idx.length), j < i → ∀ k (hk : k < j), d.idx[k].name ≠ d.idx[j].name) (fun i => d.idx.length - i) (0) [1] (fun i => [(4, .v false [i6 i])]) [none, none] ?_
      refine ⟨⟨by omega, by intros; omega⟩, ?_, fun a ha => ?_⟩
      · exact jw []
      · repeat' ((conv => whnf); (first | refine k0 ?_ | (apply cx109; refine kl tx109 ?_) | refine jst ?_ | exact ⟨rfl, rfl⟩ | exact jV | fail))
        conv => whnf
        refine ⟨fun hlt => ?_, fun hge => ?_⟩
        · have ha2 : a < d.idx.length := by omega
          repeat' ((conv => whnf); (first | refine k0 ?_ | refine jA fun _ => ?_ | refine jB fun _ => ?_ | refine kC (fun _ => ?_) fun _ => ?_ | (apply cx109; refine kl tx109 ?_) | refine jst ?_ | exact ⟨rfl, rfl⟩ | exact jV | fail))
          conv => whnf
          refine loopk (ι := Nat) (fun i => i ≤ a ∧ ∀ k (hk : k < a), k < i → d.idx[k].name ≠ d.idx[a].name) (fun i => a - i) (0) [1, 4] (fun i => [(5, .v false [i6 i])]) [none, none] ?_
          refine ⟨⟨by omega, by intros; omega⟩, ?_, fun b hb => ?_⟩
          · exact jw []
          · repeat' ((conv => whnf); (first | refine k0 ?_ | (apply cx109; refine kl tx109 ?_) | refine jst ?_ | exact ⟨rfl, rfl⟩ | exact jV | fail))
            conv => whnf
            refine ⟨fun hlt => ?_, fun hge => ?_⟩
            · have hb2 : b < d.idx.length := by omega
              have hb3 : b < a := by omega
              repeat' ((conv => whnf); (first | refine k0 ?_ | refine jA fun _ => ?_ | refine jB fun _ => ?_ | refine kC (fun _ => ?_) fun _ => ?_ | (apply cx109; refine kl tx109 ?_) | refine jst ?_ | exact ⟨rfl, rfl⟩ | exact jV | fail))
              · exact ⟨vB0 (bOf_n fun q => q.idx a ha2 b hb3 (ba_eq ‹_›)), rfl⟩
              · refine ⟨⟨b + 1, by omega, all_suc hb.2 hb3 (fun e => absurd (congrArg ByteArray.toList e) ‹_›)⟩, by simp only; omega, ?_⟩
                exact jw []
            · obtain rfl : b = a := by omega
              repeat' ((conv => whnf); (first | refine k0 ?_ | refine jA fun _ => ?_ | refine jB fun _ => ?_ | refine kC (fun _ => ?_) fun _ => ?_ | (apply cx109; refine kl tx109 ?_) | refine jst ?_ | exact ⟨rfl, rfl⟩ | exact jV | fail))
              refine ⟨⟨b + 1, by omega, all_suc ha.2 ha2 (fun k hk => hb.2 k hk hk)⟩, by simp only; omega, ?_⟩
              exact jw []
        · obtain rfl : a = d.idx.length := by omega
          repeat' ((conv => whnf); (first | refine k0 ?_ | refine jA fun _ => ?_ | refine jB fun _ => ?_ | refine kC (fun _ => ?_) fun _ => ?_ | (apply cx109; refine kl tx109 ?_) | refine jst ?_ | exact ⟨rfl, rfl⟩ | exact jV | fail))
          exact ⟨vB1 (bOf_y ⟨hcc, fun i h j hj => ha.2 i h h j hj⟩), rfl⟩

theorem cx77 {P : Program} {X : FuncId → List Arg → List (Bool × List Cell) → List (Option (List Cell)) → Prop} {a : List Arg} {Q : List (Bool × List Cell) → List (Option (List Cell)) → Prop} (h : ∃ b vals outs, a = b ∧ D P X (.call 77 b vals outs) ∧ Q vals outs) : CallS P X 77 a Q := ⟨h⟩

set_option maxRecDepth 100000 in
theorem tx100 {d : Df} {l : List By} (hd : zDf d ≤ 2000000 := by first | assumption | omega | (simp; done) | (simp; omega)) (hl : l.length ≤ 2000000 := by first | assumption | omega | (simp; done) | (simp; omega)) : T 100 [.val true (dfC false d), aE l] [vB (prtOk d.cols.length l)] [none, none] := by
  refine w_call md [] Tryz.func100 rfl ?_
  obtain ⟨q1, q2, q3, q4, q5, q6⟩ := zDf_b hd
  repeat' ((conv => whnf); (first | refine k0 ?_ | refine jA fun _ => ?_ | refine jB fun _ => ?_ | refine kC (fun _ => ?_) fun _ => ?_ | (apply cx45; refine kl tx45 ?_) | refine jst ?_ | exact ⟨rfl, rfl⟩ | exact jV | fail))
  conv => whnf
  refine loopk (ι := Nat) (fun i => i ≤ l.length ∧ ∀ j (h : j < l.length), j < i → PrtI d.cols.length l j h) (fun i => l.length - i) (0) [1, 2, 9, 10] (fun i => [(11, .v false [i6 i])]) [none, none, none] ?_
  refine ⟨⟨by omega, by intros; omega⟩, ?_, fun a ha => ?_⟩
  · exact jw []
  · repeat' ((conv => whnf); (first | refine k0 ?_ | (apply cx45; refine kl tx45 ?_) | refine jst ?_ | exact ⟨rfl, rfl⟩ | exact jV | fail))
    conv => whnf
    refine ⟨fun hlt => ?_, fun hge => ?_⟩
    · have ha2 : a < l.length := by omega
      have htk : (l.take a).length = a := by rw [List.length_take]; omega
      by_cases hin : inB l[a].col 0 ((d.cols.length : Int) - 1) = true
      · have hI : T 45 [aI l[a].col, aI 0, aI ((d.cols.length : Int) - 1)] [vB true] [none, none, none] := by
          have h := tx45 (n := l[a].col) (l := 0) (h := (d.cols.length : Int) - 1)
          rwa [hin] at h
        repeat' ((conv => whnf); (first | (apply cx45; refine kl (hI) ?_) | refine Exists.intro _ (Exists.intro _ (Exists.intro _ (And.intro rfl (And.intro bndN (And.intro (sl_to (by omega)) ?_))))) | refine k0 ?_ | refine jA fun _ => ?_ | refine jB fun _ => ?_ | refine kC (fun _ => ?_) fun _ => ?_ | (apply cx45; refine kl tx45 ?_) | refine jst ?_ | exact ⟨rfl, rfl⟩ | exact jV | fail))
        conv => whnf
        refine loopk (ι := Nat) (fun i => i ≤ a ∧ ∀ k (hk : k < a), k < i → l[k].col ≠ l[a].col) (fun i => a - i) (0) [1, 2, 6, 9, 10, 11, 26, 27] (fun i => [(28, .v false [i6 i])]) [none, none, none, none] ?_
        refine ⟨⟨by omega, by intros; omega⟩, ?_, fun b hb => ?_⟩
        · exact jw []
        · repeat' ((conv => whnf); (first | refine k0 ?_ | (apply cx45; refine kl tx45 ?_) | refine jst ?_ | exact ⟨rfl, rfl⟩ | exact jV | fail))
          conv => whnf
          refine ⟨fun hlt => ?_, fun hge => ?_⟩
          · have hb2 : b < (l.take a).length := by omega
            have hb3 : b < a := by omega
            have eg : (l.take a)[b] = l[b] := List.getElem_take
            repeat' ((conv => whnf); (first | refine k0 ?_ | refine jA fun _ => ?_ | refine jB fun _ => ?_ | refine kC (fun _ => ?_) fun _ => ?_ | (apply cx45; refine kl tx45 ?_) | refine jst ?_ | exact ⟨rfl, rfl⟩ | exact jV | fail))
            · have e : l[b].col = l[a].col := by rw [← eg]; assumption
              exact ⟨vB0 (bOf_n fun q => (q.prt a ha2).2 b hb3 e), rfl⟩
            · have e : l[b].col ≠ l[a].col := by rw [← eg]; assumption
              refine ⟨⟨b + 1, by omega, all_suc hb.2 hb3 e⟩, by simp only; omega, ?_⟩
              exact jw []
          · obtain rfl : b = a := by omega
            repeat' ((conv => whnf); (first | refine k0 ?_ | refine jA fun _ => ?_ | refine jB fun _ => ?_ | refine kC (fun _ => ?_) fun _ => ?_ | (apply cx45; refine kl tx45 ?_) | refine jst ?_ | exact ⟨rfl, rfl⟩ | exact jV | fail))
            refine ⟨⟨b + 1, by omega, all_suc ha.2 ha2 ⟨hin, fun k hk => hb.2 k hk hk⟩⟩, by simp only; omega, ?_⟩
            exact jw []
      · have hinf : inB l[a].col 0 ((d.cols.length : Int) - 1) = false := by cases h : inB l[a].col 0 ((d.cols.length : Int) - 1) with
          | true => exact absurd h hin
          | false => rfl
        have hI : T 45 [aI l[a].col, aI 0, aI ((d.cols.length : Int) - 1)] [vB false] [none, none, none] := by
          have h := tx45 (n := l[a].col) (l := 0) (h := (d.cols.length : Int) - 1)
          rwa [hinf] at h
        repeat' ((conv => whnf); (first | (apply cx45; refine kl (hI) ?_) | refine k0 ?_ | refine jA fun _ => ?_ | refine jB fun _ => ?_ | refine kC (fun _ => ?_) fun _ => ?_ | (apply cx45; refine kl tx45 ?_) | refine jst ?_ | exact ⟨rfl, rfl⟩ | exact jV | fail))
        exact ⟨vB0 (bOf_n fun q => hin (q.prt a ha2).1), rfl⟩
    · obtain rfl : a = l.length := by omega
      repeat' ((conv => whnf); (first | refine k0 ?_ | refine jA fun _ => ?_ | refine jB fun _ => ?_ | refine kC (fun _ => ?_) fun _ => ?_ | (apply cx45; refine kl tx45 ?_) | refine jst ?_ | exact ⟨rfl, rfl⟩ | exact jV | fail))
      · exact ⟨vB1 (bOf_y ⟨‹_ = true›, fun j h => ha.2 j h h⟩), rfl⟩
      · exact ⟨vB0 (bOf_n fun q => bft ‹_ = false› q.len), rfl⟩

theorem cx100 {P : Program} {X : FuncId → List Arg → List (Bool × List Cell) → List (Option (List Cell)) → Prop} {a : List Arg} {Q : List (Bool × List Cell) → List (Option (List Cell)) → Prop} (h : ∃ b vals outs, a = b ∧ D P X (.call 100 b vals outs) ∧ Q vals outs) : CallS P X 100 a Q := ⟨h⟩

set_option maxRecDepth 100000 in
theorem tx110 {d : Df} {l : List By} (hd : zDf d ≤ 2000000 := by first | assumption | omega | (simp; done) | (simp; omega)) (hl : l.length ≤ 2000000 := by first | assumption | omega | (simp; done) | (simp; omega)) : T 110 [.val true (dfC false d), aE l] [vB (prtOk d.cols.length l)] [none, none] := by
  refine w_call md [] Tryz.func110 rfl ?_
  obtain ⟨q1, q2, q3, q4, q5, q6⟩ := zDf_b hd
  repeat' ((conv => whnf); (first | refine k0 ?_ | refine jA fun _ => ?_ | refine jB fun _ => ?_ | refine kC (fun _ => ?_) fun _ => ?_ | (apply cx39; refine kl tx39 ?_) | refine jst ?_ | exact ⟨rfl, rfl⟩ | exact jV | fail))
  conv => whnf
  refine loopk (ι := Nat) (fun i => i ≤ l.length ∧ ∀ j (h : j < l.length), j < i → inB l[j].col 0 ((d.cols.length : Int) - 1) = true ∧ (0 < j → l[0].col ≠ l[j].col)) (fun i => l.length - i) (0) [1, 2] (fun i => [(5, .v false [i6 i])]) [none, none, none] ?_
  refine ⟨⟨by omega, by intros; omega⟩, ?_, fun a ha => ?_⟩
  · exact jw []
  · repeat' ((conv => whnf); (first | refine k0 ?_ | (apply cx39; refine kl tx39 ?_) | refine jst ?_ | exact ⟨rfl, rfl⟩ | exact jV | fail))
    conv => whnf
    refine ⟨fun hlt => ?_, fun hge => ?_⟩
    · have ha2 : a < l.length := by omega
      have h0 : 0 < l.length := by omega
      by_cases hin : inB l[a].col 0 ((d.cols.length : Int) - 1) = true
      · have hI : T 39 [aI l[a].col, aI 0, aI ((d.cols.length : Int) - 1)] [vB true] [none, none, none] := by
          have h := tx39 (n := l[a].col) (l := 0) (h := (d.cols.length : Int) - 1)
          rwa [hin] at h
        by_cases hz : a = 0
        · subst hz
          repeat' ((conv => whnf); (first | (apply cx39; refine kl (hI) ?_) | refine k0 ?_ | refine jA fun _ => ?_ | refine jB fun _ => ?_ | refine kC (fun _ => ?_) fun _ => ?_ | (apply cx39; refine kl tx39 ?_) | refine jst ?_ | exact ⟨rfl, rfl⟩ | exact jV | fail))
          refine ⟨⟨0 + 1, by omega, all_suc ha.2 ha2 ⟨hin, fun q => by omega⟩⟩, by simp only; omega, ?_⟩
          exact jw []
        · by_cases hq : l[0].col = l[a].col
          · repeat' ((conv => whnf); (first | (apply cx39; refine kl (hI) ?_) | refine And.intro ⟨by omega, by omega⟩ (Exists.intro _ (And.intro (rdI (i := 0) (by omega) (by omega)) ?_)) | refine k0 ?_ | refine jA fun _ => ?_ | refine jB fun _ => ?_ | refine kC (fun _ => ?_) fun _ => ?_ | (apply cx39; refine kl tx39 ?_) | refine jst ?_ | exact ⟨rfl, rfl⟩ | exact jV | fail))
            exact ⟨vB0 (bOf_n fun q => (q.prt a ha2).2 0 (by omega) hq), rfl⟩
          · repeat' ((conv => whnf); (first | (apply cx39; refine kl (hI) ?_) | refine And.intro ⟨by omega, by omega⟩ (Exists.intro _ (And.intro (rdI (i := 0) (by omega) (by omega)) ?_)) | refine k0 ?_ | refine jA fun _ => ?_ | refine jB fun _ => ?_ | refine kC (fun _ => ?_) fun _ => ?_ | (apply cx39; refine kl tx39 ?_) | refine jst ?_ | exact ⟨rfl, rfl⟩ | exact jV | fail))
            refine ⟨⟨a + 1, by omega, all_suc ha.2 ha2 ⟨hin, fun _ => hq⟩⟩, by simp only; omega, ?_⟩
            exact jw []
      · have hinf : inB l[a].col 0 ((d.cols.length : Int) - 1) = false := by cases h : inB l[a].col 0 ((d.cols.length : Int) - 1) with
          | true => exact absurd h hin
          | false => rfl
        have hI : T 39 [aI l[a].col, aI 0, aI ((d.cols.length : Int) - 1)] [vB false] [none, none, none] := by
          have h := tx39 (n := l[a].col) (l := 0) (h := (d.cols.length : Int) - 1)
          rwa [hinf] at h
        repeat' ((conv => whnf); (first | (apply cx39; refine kl (hI) ?_) | refine k0 ?_ | refine jA fun _ => ?_ | refine jB fun _ => ?_ | refine kC (fun _ => ?_) fun _ => ?_ | (apply cx39; refine kl tx39 ?_) | refine jst ?_ | exact ⟨rfl, rfl⟩ | exact jV | fail))
        exact ⟨vB0 (bOf_n fun q => hin (q.prt a ha2).1), rfl⟩
    · obtain rfl : a = l.length := by omega
      repeat' ((conv => whnf); (first | refine k0 ?_ | refine jA fun _ => ?_ | refine jB fun _ => ?_ | refine kC (fun _ => ?_) fun _ => ?_ | (apply cx39; refine kl tx39 ?_) | refine jst ?_ | exact ⟨rfl, rfl⟩ | exact jV | fail))
      · have h2 := inB_iff.1 ‹inB _ _ _ = true›
        exact ⟨vB1 (bOf_y ⟨‹_ = true›, fun j h => ⟨(ha.2 j h h).1, fun k hk => by
          obtain rfl : k = 0 := by omega
          exact (ha.2 j h h).2 (by omega)⟩⟩), rfl⟩
      · exact ⟨vB0 (bOf_n fun q => bft ‹_ = false› q.len), rfl⟩

theorem cx110 {P : Program} {X : FuncId → List Arg → List (Bool × List Cell) → List (Option (List Cell)) → Prop} {a : List Arg} {Q : List (Bool × List Cell) → List (Option (List Cell)) → Prop} (h : ∃ b vals outs, a = b ∧ D P X (.call 110 b vals outs) ∧ Q vals outs) : CallS P X 110 a Q := ⟨h⟩

set_option maxRecDepth 100000 in
theorem tx78 {d : Df} (hd : zDf d ≤ 2000000 := by first | assumption | omega | (simp; done) | (simp; omega)) : T 78 [.val true (dfC false d)] [vB (allOk d)] [none] := by
  refine w_call md [] Tryz.func78 rfl ?_
  obtain ⟨q1, q2, q3, q4, q5, q6⟩ := zDf_b hd
  repeat' ((conv => whnf); (first | refine k0 ?_ | refine jA fun _ => ?_ | refine jB fun _ => ?_ | refine kC (fun _ => ?_) fun _ => ?_ | (apply cx110; refine kl tx110 ?_) | refine jst ?_ | exact ⟨rfl, rfl⟩ | exact jV | fail))
  conv => whnf
  refine loopk (ι := Nat) (fun i => i ≤ d.idx.length ∧ ∀ j (h : j < d.idx.length), j < i → prtOk d.cols.length d.idx[j].parts = true) (fun i => d.idx.length - i) (0) [1] (fun i => [(3, .v false [i6 i])]) [none, none] ?_
  refine ⟨⟨by omega, by intros; omega⟩, ?_, fun i hi => ?_⟩
  · exact jw []
  · repeat' ((conv => whnf); (first | refine k0 ?_ | (apply cx110; refine kl tx110 ?_) | refine jst ?_ | exact ⟨rfl, rfl⟩ | exact jV | fail))
    conv => whnf
    refine ⟨fun hlt => ?_, fun hge => ?_⟩
    · have hi2 : i < d.idx.length := by omega
      have hb := (q6 i hi2).2
      repeat' ((conv => whnf); (first | (apply cx110; refine kl (tx110 (d := d) (l := d.idx[i].parts)) ?_) | refine k0 ?_ | refine jA fun _ => ?_ | refine jB fun _ => ?_ | refine kC (fun _ => ?_) fun _ => ?_ | (apply cx110; refine kl tx110 ?_) | refine jst ?_ | exact ⟨rfl, rfl⟩ | exact jV | fail))
      · refine ⟨⟨i + 1, by omega, all_suc hi.2 hi2 ‹_ = true›⟩, by simp only; omega, ?_⟩
        exact jw []
      · exact ⟨vB0 (bOf_n fun q => bft ‹_ = false› (q.idx i hi2)), rfl⟩
    · obtain rfl : i = d.idx.length := by omega
      repeat' ((conv => whnf); (first | (apply cx110; refine kl (tx110 (d := d) (l := d.prim)) ?_) | refine k0 ?_ | refine jA fun _ => ?_ | refine jB fun _ => ?_ | refine kC (fun _ => ?_) fun _ => ?_ | (apply cx110; refine kl tx110 ?_) | refine jst ?_ | exact ⟨rfl, rfl⟩ | exact jV | fail))
      · exact ⟨vB1 (bOf_y ⟨fun j h => hi.2 j h h, ‹_ = true›⟩), rfl⟩
      · exact ⟨vB0 (bOf_n fun q => bft ‹_ = false› q.prim), rfl⟩

theorem cx78 {P : Program} {X : FuncId → List Arg → List (Bool × List Cell) → List (Option (List Cell)) → Prop} {a : List Arg} {Q : List (Bool × List Cell) → List (Option (List Cell)) → Prop} (h : ∃ b vals outs, a = b ∧ D P X (.call 78 b vals outs) ∧ Q vals outs) : CallS P X 78 a Q := ⟨h⟩
end

end Go.Proofs.YtddikflnjloagaaGreatDoor
