/- What the law comes to: functions of the program, each with what it gives back, and the plain facts behind them. -/
import Derived.Calls
import Derived.Below
import Derived.Deep.AppendSrc
import Derived.Deep.MidRow
import Derived.Laws.StructEq
import Derived.Laws.MakeOwn
import Derived.Lib.ConvBytes
namespace Go.Proofs.YtddikflnjloagaaGreatDoor

section
open Go Go.RowKit

/-- What a cell of memory (or a part of a value) holds. `sl own n s l`: a slice of `n` elements of `s` cells each, whose cells are `l`. -/
inductive Cell where
  | prim (v : Value)
  | nil
  | sl (own : Bool) (n s : Nat) (l : List Cell)
  | ref (id off n s : Nat)
  | ptr (id off : Nat)
  | rop (l : List Cell)
  | op (l : List Cell)
  | dead
  deriving Inhabited

/-- A value in a slot: one cell, or (`agg`) the cells of a struct; several results; nothing known. -/
inductive TV where
  | v (agg : Bool) (l : List Cell)
  | tup (l : List (Bool × List Cell))
  | undef
  deriving Inhabited

abbrev Node := Bool × List Cell

/-- The block of a variable of the library's that holds a number and stays as it is; none: there is none. -/
def gBlk : Option Nat := some 0

structure St where
  t : List TV
  h : List (Option Node)

def St.tv (σ : St) (i : Nat) : TV := σ.t.getD i .undef

def St.nd (σ : St) (i : Nat) : Option Node := (σ.h[i]?).join

/-- A cell that leads to no node. -/
def Cell.shal : Cell → Bool
  | .prim _ | .nil | .sl .. => true
  | _ => false

mutual
/-- .. nor does anything within. -/
def Cell.closed : Cell → Bool
  | .prim _ | .nil => true
  | .sl _ _ _ l => closedL l
  | _ => false
def closedL : List Cell → Bool
  | [] => true
  | c :: l => c.closed && closedL l
end

mutual
/-- The same, nothing of it the call's own any more. -/
def Cell.roify : Cell → Cell
  | .sl _ n s l => .sl false n s (roifyL l)
  | .op _ => .dead
  | c => c
def roifyL : List Cell → List Cell
  | [] => []
  | c :: l => c.roify :: roifyL l
end

/-- Block `b` may be written in all its cells, of which there are at least `m`. -/
def Wr (w : World) (b m : Nat) : Prop :=
  ∃ (c : Array Value) (e : TypeId) (lo hi : Nat), w.heap[b]? = some (Obj.cells c e (lo, hi)) ∧ m ≤ c.size ∧ ∀ off, off < c.size → ¬ (lo ≤ off ∧ off < hi)

/-- No block of cells goes, or changes its size, its type, or what of it is frozen. -/
def Grows (w w' : World) : Prop :=
  w.heap.size ≤ w'.heap.size ∧ ∀ (b : Nat) (c : Array Value) (e : TypeId) (fr : Nat × Nat), w.heap[b]? = some (Obj.cells c e fr) → ∃ c' : Array Value, w'.heap[b]? = some (Obj.cells c' e fr) ∧ c'.size = c.size

theorem Grows.refl (w : World) : Grows w w := ⟨Nat.le_refl _, fun _ c _ _ h => ⟨c, h, rfl⟩⟩

theorem Grows.trans {a b c : World} (h : Grows a b) (k : Grows b c) : Grows a c :=
  ⟨Nat.le_trans h.1 k.1, fun i x e fr hx => by
    obtain ⟨x', hx', e1⟩ := h.2 i x e fr hx
    obtain ⟨x'', hx'', e2⟩ := k.2 i x' e fr hx'
    exact ⟨x'', hx'', e2.trans e1⟩⟩

theorem Wr.grows {w w' : World} {b m : Nat} (h : Wr w b m) (g : Grows w w') : Wr w' b m := by
  obtain ⟨c, e, lo, hi, h1, h2, h3⟩ := h
  obtain ⟨c', h1', hs⟩ := g.2 _ _ _ _ h1
  exact ⟨c', e, lo, hi, h1', by omega, by rw [hs]; exact h3⟩

theorem Wr.mono {w : World} {b m m' : Nat} (h : Wr w b m) (hm : m' ≤ m) : Wr w b m' := by
  obtain ⟨c, e, lo, hi, h1, h2, h3⟩ := h
  exact ⟨c, e, lo, hi, h1, by omega, h3⟩

theorem Wr.lt {w : World} {b m : Nat} (h : Wr w b m) : b < w.heap.size := by
  obtain ⟨c, e, lo, hi, h1, _, _⟩ := h
  exact (Array.getElem?_eq_some_iff.1 h1).1

theorem Wr.cell {w : World} {b m : Nat} (h : Wr w b m) {o : Nat} (ho : o < m) : (w.cell? ⟨b, o, none⟩).isSome = true := by
  obtain ⟨c, e, lo, hi, h1, h2, _⟩ := h
  simp [World.cell?, h1]; omega

theorem Wr.unfrozen {w : World} {b m : Nat} (h : Wr w b m) {o : Nat} (ho : o < m) : w.frozen? ⟨b, o, none⟩ = false := by
  obtain ⟨c, e, lo, hi, h1, h2, h3⟩ := h
  have := h3 o (by omega)
  simp [World.frozen?, h1]; omega

theorem Wr.there {w : World} {b m o n : Nat} (h : Wr w b m) (ho : o + n ≤ m) : w.there b o n :=
  fun j hj => ⟨h.cell (by omega), h.unfrozen (by omega)⟩

/-- The pointer of a slice without elements and without room. -/
def zp (p : Option Addr) : Prop := p = none ∨ ∃ b o, p = some ⟨b, o, none⟩

/-- How values stand for cells: `S` says which blocks are not written any more, `U` which node ids are in use, `L` where a node lies. The last list: the blocks of the slices within that are the cells' own. -/
inductive Rep (S U : Nat → Prop) (L : Nat → Nat × Nat) (w : World) : List Value → List Cell → List Nat → Prop
  | nil : Rep S U L w [] [] []
  | prim {v vs cs F} : v.oneCell' = true → Rep S U L w vs cs F → Rep S U L w (v :: vs) (.prim v :: cs) F
  | nils {vs cs F} : Rep S U L w vs cs F → Rep S U L w (.slice none 0 0 :: vs) (.nil :: cs) F
  | ro {b o n cap s l us vs cs F} : (l ≠ [] → S b) → l.length = n * s → n ≤ cap → w.rangeAt b o us → closedL l = true → Rep S U L w us l [] → Rep S U L w vs cs F →
      Rep S U L w (.slice (some ⟨b, o, none⟩) n cap :: vs) (.sl false n s l :: cs) F
  | own {b o n cap s l us F1 vs cs F} : Wr w b (o + cap * s) → l.length = n * s → n ≤ cap → w.rangeAt b o us → closedL l = true → l ≠ [] → Rep S U L w us l F1 → Rep S U L w vs cs F →
      Rep S U L w (.slice (some ⟨b, o, none⟩) n cap :: vs) (.sl true n s l :: cs) (b :: F1 ++ F)
  | ref {id off n s cap vs cs F} : U id → Wr w (L id).1 ((L id).2 + off + cap * s) → n ≤ cap → n ≠ 0 → Rep S U L w vs cs F →
      Rep S U L w (.slice (some ⟨(L id).1, (L id).2 + off, none⟩) n cap :: vs) (.ref id off n s :: cs) F
  | ro0 {p cap s vs cs F} : (p = none → cap = 0) → Rep S U L w vs cs F → Rep S U L w (.slice p 0 cap :: vs) (.sl false 0 s [] :: cs) F
  | own0 {p s vs cs F} : zp p → Rep S U L w vs cs F → Rep S U L w (.slice p 0 0 :: vs) (.sl true 0 s [] :: cs) F
  | ref0 {p id off s vs cs F} : U id → zp p → Rep S U L w vs cs F → Rep S U L w (.slice p 0 0 :: vs) (.ref id off 0 s :: cs) F
  | ptr {id off vs cs F} : U id → Rep S U L w vs cs F → Rep S U L w (.pointer (some ⟨(L id).1, (L id).2 + off, none⟩) :: vs) (.ptr id off :: cs) F
  | rop {b o l us vs cs F} : (l ≠ [] → S b) → w.rangeAt b o us → closedL l = true → Rep S U L w us l [] → Rep S U L w vs cs F →
      Rep S U L w (.pointer (some ⟨b, o, none⟩) :: vs) (.rop l :: cs) F
  | ownp {b o l us F1 vs cs F} : Wr w b (o + l.length) → w.rangeAt b o us → closedL l = true → l ≠ [] → Rep S U L w us l F1 → Rep S U L w vs cs F →
      Rep S U L w (.pointer (some ⟨b, o, none⟩) :: vs) (.op l :: cs) (b :: F1 ++ F)
  | dead {v vs cs F} : v.oneCell' = true → Rep S U L w vs cs F → Rep S U L w (v :: vs) (.dead :: cs) F

theorem rep_nil {S U L w vs F} (h : Rep S U L w vs [] F) : vs = [] ∧ F = [] := by cases h; exact ⟨rfl, rfl⟩

theorem Rep.length {S U L w vs cs F} (h : Rep S U L w vs cs F) : vs.length = cs.length := by
  induction h <;> simp_all

theorem Rep.one {S U L w vs cs F} (h : Rep S U L w vs cs F) : ∀ v ∈ vs, v.oneCell' = true := by
  induction h with
  | nil => simp
  | prim h1 _ ih => exact List.forall_mem_cons.2 ⟨h1, ih⟩
  | nils _ ih => exact List.forall_mem_cons.2 ⟨rfl, ih⟩
  | ro _ _ _ _ _ _ _ _ ih => exact List.forall_mem_cons.2 ⟨rfl, ih⟩
  | own _ _ _ _ _ _ _ _ _ ih => exact List.forall_mem_cons.2 ⟨rfl, ih⟩
  | ref _ _ _ _ _ ih => exact List.forall_mem_cons.2 ⟨rfl, ih⟩
  | ro0 _ _ ih => exact List.forall_mem_cons.2 ⟨rfl, ih⟩
  | own0 _ _ ih => exact List.forall_mem_cons.2 ⟨rfl, ih⟩
  | ref0 _ _ _ ih => exact List.forall_mem_cons.2 ⟨rfl, ih⟩
  | ptr _ _ ih => exact List.forall_mem_cons.2 ⟨rfl, ih⟩
  | rop _ _ _ _ _ _ ih => exact List.forall_mem_cons.2 ⟨rfl, ih⟩
  | ownp _ _ _ _ _ _ _ ih => exact List.forall_mem_cons.2 ⟨rfl, ih⟩
  | dead h1 _ ih => exact List.forall_mem_cons.2 ⟨h1, ih⟩

theorem rangeAt_of_block {w w' : World} {b : Nat} (h : w'.heap[b]? = w.heap[b]?) {o : Nat} {us : List Value} (hr : w.rangeAt b o us) : w'.rangeAt b o us :=
  fun j v hv => (World.cell?_of_block (w := w) (a := ⟨b, o + j, none⟩) h).trans (hr j v hv)

theorem rangeAt_nil (w : World) (b o : Nat) : w.rangeAt b o [] := fun j v h => by simp at h

theorem rangeAt_lt {w : World} {b o : Nat} {us : List Value} (h : w.rangeAt b o us) (hu : us ≠ []) : b < w.heap.size := by
  cases us with
  | nil => exact absurd rfl hu
  | cons v r => exact World.block_lt_of_cell? _ _ (h 0 v rfl)

/-- What stands for the cells stands for them in another world, too, where the blocks that matter are as they were. -/
theorem Rep.carry {S U L w vs cs F} (h : Rep S U L w vs cs F) {S' U' : Nat → Prop} {L' : Nat → Nat × Nat} {w' : World}
    (hS : ∀ b, S b → S' b ∧ w'.heap[b]? = w.heap[b]?) (hU : ∀ i, U i → U' i ∧ L' i = L i) (hF : ∀ b ∈ F, w'.heap[b]? = w.heap[b]?) (hg : Grows w w') :
    Rep S' U' L' w' vs cs F := by
  induction h with
  | nil => exact .nil
  | prim h1 _ ih => exact .prim h1 (ih hF)
  | nils _ ih => exact .nils (ih hF)
  | @ro b o n cap s l us vs cs F h1 h2 h3 h4 hc h5 _ ih1 ih2 =>
    refine .ro (fun hl => (hS _ (h1 hl)).1) h2 h3 ?_ hc (ih1 (by simp)) (ih2 hF)
    by_cases hl : l = []
    · have : us = [] := by have := h5.length; subst hl; simpa using this
      subst this; exact rangeAt_nil _ _ _
    · exact rangeAt_of_block (hS _ (h1 hl)).2 h4
  | @own b o n cap s l us F1 vs cs F h1 h2 h3 h4 hc hz h5 _ ih1 ih2 =>
    exact .own (h1.grows hg) h2 h3 (rangeAt_of_block (hF _ (by simp)) h4) hc hz (ih1 fun b hb => hF b (by simp [hb])) (ih2 fun b hb => hF b (by simp [hb]))
  | @ref id off n s cap vs cs F h1 h2 h3 hz _ ih =>
    have e := (hU _ h1).2
    rw [← e] at h2 ⊢
    exact .ref (hU _ h1).1 (h2.grows hg) h3 hz (ih hF)
  | ro0 h1 _ ih => exact .ro0 h1 (ih hF)
  | own0 h1 _ ih => exact .own0 h1 (ih hF)
  | ref0 h1 h2 _ ih => exact .ref0 (hU _ h1).1 h2 (ih hF)
  | @ptr id off vs cs F h1 _ ih =>
    have e := (hU _ h1).2
    rw [← e]
    exact .ptr (hU _ h1).1 (ih hF)
  | @rop b o l us vs cs F h1 h4 hc h5 _ ih1 ih2 =>
    refine .rop (fun hl => (hS _ (h1 hl)).1) ?_ hc (ih1 (by simp)) (ih2 hF)
    by_cases hl : l = []
    · have : us = [] := by have := h5.length; subst hl; simpa using this
      subst this; exact rangeAt_nil _ _ _
    · exact rangeAt_of_block (hS _ (h1 hl)).2 h4
  | @ownp b o l us F1 vs cs F h1 h4 hc hz h5 _ ih1 ih2 =>
    exact .ownp (h1.grows hg) (rangeAt_of_block (hF _ (by simp)) h4) hc hz (ih1 fun b hb => hF b (by simp [hb])) (ih2 fun b hb => hF b (by simp [hb]))
  | dead h1 _ ih => exact .dead h1 (ih hF)

theorem Rep.append {S U L w vs cs F vs' cs' F'} (h : Rep S U L w vs cs F) (h' : Rep S U L w vs' cs' F') : Rep S U L w (vs ++ vs') (cs ++ cs') (F ++ F') := by
  induction h with
  | nil => exact h'
  | prim h1 _ ih => exact .prim h1 ih
  | nils _ ih => exact .nils ih
  | ro h1 h2 h3 h4 hc h5 _ _ ih => exact .ro h1 h2 h3 h4 hc h5 ih
  | own h1 h2 h3 h4 hc hz h5 _ _ ih => rw [List.append_assoc]; exact .own h1 h2 h3 h4 hc hz h5 ih
  | ref h1 h2 h3 hz _ ih => exact .ref h1 h2 h3 hz ih
  | ro0 h1 _ ih => exact .ro0 h1 ih
  | own0 h1 _ ih => exact .own0 h1 ih
  | ref0 h1 h2 _ ih => exact .ref0 h1 h2 ih
  | ptr h1 _ ih => exact .ptr h1 ih
  | rop h1 h4 hc h5 _ _ ih => exact .rop h1 h4 hc h5 ih
  | ownp h1 h4 hc hz h5 _ _ ih => rw [List.append_assoc]; exact .ownp h1 h4 hc hz h5 ih
  | dead h1 _ ih => exact .dead h1 ih

theorem Rep.split {S U L w} : ∀ {cs1 cs2 : List Cell} {vs : List Value} {F : List Nat}, Rep S U L w vs (cs1 ++ cs2) F →
    ∃ vs1 vs2 F1 F2, vs = vs1 ++ vs2 ∧ F = F1 ++ F2 ∧ Rep S U L w vs1 cs1 F1 ∧ Rep S U L w vs2 cs2 F2
  | [], cs2, vs, F, h => ⟨[], vs, [], F, rfl, rfl, .nil, h⟩
  | c :: cs1, cs2, vs, F, h => by
    cases h with
    | prim h1 h => obtain ⟨a, b, A, B, rfl, rfl, k1, k2⟩ := Rep.split h; exact ⟨_ :: a, b, A, B, rfl, rfl, .prim h1 k1, k2⟩
    | nils h => obtain ⟨a, b, A, B, rfl, rfl, k1, k2⟩ := Rep.split h; exact ⟨_ :: a, b, A, B, rfl, rfl, .nils k1, k2⟩
    | ro h1 h2 h3 h4 hc h5 h => obtain ⟨a, b, A, B, rfl, rfl, k1, k2⟩ := Rep.split h; exact ⟨_ :: a, b, A, B, rfl, rfl, .ro h1 h2 h3 h4 hc h5 k1, k2⟩
    | own h1 h2 h3 h4 hc hz h5 h => obtain ⟨a, b, A, B, rfl, rfl, k1, k2⟩ := Rep.split h; exact ⟨_ :: a, b, _, B, rfl, by rw [List.append_assoc], .own h1 h2 h3 h4 hc hz h5 k1, k2⟩
    | ref h1 h2 h3 hz h => obtain ⟨a, b, A, B, rfl, rfl, k1, k2⟩ := Rep.split h; exact ⟨_ :: a, b, A, B, rfl, rfl, .ref h1 h2 h3 hz k1, k2⟩
    | ro0 h1 h => obtain ⟨a, b, A, B, rfl, rfl, k1, k2⟩ := Rep.split h; exact ⟨_ :: a, b, A, B, rfl, rfl, .ro0 h1 k1, k2⟩
    | own0 h1 h => obtain ⟨a, b, A, B, rfl, rfl, k1, k2⟩ := Rep.split h; exact ⟨_ :: a, b, A, B, rfl, rfl, .own0 h1 k1, k2⟩
    | ref0 h1 h2 h => obtain ⟨a, b, A, B, rfl, rfl, k1, k2⟩ := Rep.split h; exact ⟨_ :: a, b, A, B, rfl, rfl, .ref0 h1 h2 k1, k2⟩
    | ptr h1 h => obtain ⟨a, b, A, B, rfl, rfl, k1, k2⟩ := Rep.split h; exact ⟨_ :: a, b, A, B, rfl, rfl, .ptr h1 k1, k2⟩
    | rop h1 h4 hc h5 h => obtain ⟨a, b, A, B, rfl, rfl, k1, k2⟩ := Rep.split h; exact ⟨_ :: a, b, A, B, rfl, rfl, .rop h1 h4 hc h5 k1, k2⟩
    | ownp h1 h4 hc hz h5 h => obtain ⟨a, b, A, B, rfl, rfl, k1, k2⟩ := Rep.split h; exact ⟨_ :: a, b, _, B, rfl, by rw [List.append_assoc], .ownp h1 h4 hc hz h5 k1, k2⟩
    | dead h1 h => obtain ⟨a, b, A, B, rfl, rfl, k1, k2⟩ := Rep.split h; exact ⟨_ :: a, b, A, B, rfl, rfl, .dead h1 k1, k2⟩

/-- The blocks of own slices are there. -/
theorem Rep.lt {S U L w vs cs F} (h : Rep S U L w vs cs F) : ∀ b ∈ F, b < w.heap.size := by
  induction h with
  | nil => simp
  | prim _ _ ih => exact ih
  | nils _ ih => exact ih
  | ro _ _ _ _ _ _ _ _ ih => exact ih
  | own h1 _ _ _ _ _ _ _ ih1 ih2 =>
    intro b hb
    rcases List.mem_append.1 hb with hb | hb
    · rcases List.mem_cons.1 hb with rfl | hb
      · exact h1.lt
      · exact ih1 b hb
    · exact ih2 b hb
  | ref _ _ _ _ _ ih => exact ih
  | ro0 _ _ ih => exact ih
  | own0 _ _ ih => exact ih
  | ref0 _ _ _ ih => exact ih
  | ptr _ _ ih => exact ih
  | rop _ _ _ _ _ _ ih => exact ih
  | ownp h1 _ _ _ _ _ ih1 ih2 =>
    intro b hb
    rcases List.mem_append.1 hb with hb | hb
    · rcases List.mem_cons.1 hb with rfl | hb
      · exact h1.lt
      · exact ih1 b hb
    · exact ih2 b hb
  | dead _ _ ih => exact ih

/-- What leads to no node stands for the same whatever nodes there are. -/
theorem Rep.free {S U L w vs cs F} (h : Rep S U L w vs cs F) {U' : Nat → Prop} {L' : Nat → Nat × Nat} (hc : closedL cs = true) : Rep S U' L' w vs cs F := by
  induction h with
  | nil => exact .nil
  | prim h1 _ ih => exact .prim h1 (ih (by simpa [closedL, Cell.closed] using hc))
  | nils _ ih => exact .nils (ih (by simpa [closedL, Cell.closed] using hc))
  | ro h1 h2 h3 h4 hc' _ _ ih1 ih2 => exact .ro h1 h2 h3 h4 hc' (ih1 hc') (ih2 (by simp [closedL] at hc; exact hc.2))
  | own h1 h2 h3 h4 hc' hz _ _ ih1 ih2 => exact .own h1 h2 h3 h4 hc' hz (ih1 hc') (ih2 (by simp [closedL] at hc; exact hc.2))
  | ref _ _ _ _ _ _ => simp [closedL, Cell.closed] at hc
  | ro0 h1 _ ih => exact .ro0 h1 (ih (by simp [closedL] at hc; exact hc.2))
  | own0 h1 _ ih => exact .own0 h1 (ih (by simp [closedL] at hc; exact hc.2))
  | ref0 _ _ _ _ => simp [closedL, Cell.closed] at hc
  | ptr _ _ _ => simp [closedL, Cell.closed] at hc
  | rop _ _ _ _ _ _ _ => simp [closedL, Cell.closed] at hc
  | ownp _ _ _ _ _ _ _ _ => simp [closedL, Cell.closed] at hc
  | dead _ _ _ => simp [closedL, Cell.closed] at hc

theorem Rep.closed {S U L w vs cs F} (h : Rep S U L w vs cs F) (hs : cs.all Cell.shal = true) : closedL cs = true := by
  induction h with
  | nil => rfl
  | prim _ _ ih => simp only [List.all_cons, Bool.and_eq_true] at hs; simp [closedL, Cell.closed, ih hs.2]
  | nils _ ih => simp only [List.all_cons, Bool.and_eq_true] at hs; simp [closedL, Cell.closed, ih hs.2]
  | ro _ _ _ _ hc _ _ _ ih => simp only [List.all_cons, Bool.and_eq_true] at hs; simp [closedL, Cell.closed, ih hs.2, hc]
  | own _ _ _ _ hc _ _ _ _ ih => simp only [List.all_cons, Bool.and_eq_true] at hs; simp [closedL, Cell.closed, ih hs.2, hc]
  | ref _ _ _ _ _ _ => simp [Cell.shal] at hs
  | ro0 _ _ ih => simp only [List.all_cons, Bool.and_eq_true] at hs; simp [closedL, Cell.closed, ih hs.2]
  | own0 _ _ ih => simp only [List.all_cons, Bool.and_eq_true] at hs; simp [closedL, Cell.closed, ih hs.2]
  | ref0 _ _ _ _ => simp [Cell.shal] at hs
  | ptr _ _ _ => simp [Cell.shal] at hs
  | rop _ _ _ _ _ _ _ => simp [Cell.shal] at hs
  | ownp _ _ _ _ _ _ _ _ => simp [Cell.shal] at hs
  | dead _ _ _ => simp [Cell.shal] at hs

mutual
theorem Cell.closed_roify : ∀ c : Cell, c.roify.closed = c.closed
  | .sl _ _ _ l => by simp [Cell.roify, Cell.closed, closedL_roify l]
  | .prim _ | .nil | .ref .. | .ptr .. | .rop _ | .op _ | .dead => rfl
theorem closedL_roify : ∀ l : List Cell, closedL (roifyL l) = closedL l
  | [] => rfl
  | c :: l => by simp [roifyL, closedL, Cell.closed_roify c, closedL_roify l]
end

theorem roifyL_eq_nil {l : List Cell} (h : roifyL l ≠ []) : l ≠ [] := by rintro rfl; exact h rfl

theorem roifyL_length : ∀ l : List Cell, (roifyL l).length = l.length
  | [] => rfl
  | c :: l => by simp [roifyL, roifyL_length l]

theorem roifyL_append : ∀ a b : List Cell, roifyL (a ++ b) = roifyL a ++ roifyL b
  | [], _ => rfl
  | c :: a, b => by simp [roifyL, roifyL_append a b]

theorem ro_zero {S U L w p s vs cs F} (_hp : zp p) (h : Rep S U L w vs cs F) : Rep S U L w (.slice p 0 0 :: vs) (.sl false 0 s [] :: cs) F := by
  exact .ro0 (fun _ => rfl) h

/-- What was the call's own, once nobody writes it any more. -/
theorem Rep.roify {S U L w vs cs F} (h : Rep S U L w vs cs F) {S' : Nat → Prop} (hS : ∀ b, S b → S' b) (hF : ∀ b ∈ F, S' b) : Rep S' U L w vs (roifyL cs) [] := by
  induction h with
  | nil => exact .nil
  | prim h1 _ ih => exact .prim h1 (ih hF)
  | nils _ ih => exact .nils (ih hF)
  | ro h1 h2 h3 h4 hc _ _ ih1 ih2 => exact .ro (fun hl => hS _ (h1 (roifyL_eq_nil hl))) (by rw [roifyL_length]; exact h2) h3 h4 (by rw [closedL_roify]; exact hc) (ih1 (by simp)) (ih2 hF)
  | own h1 h2 h3 h4 hc _ _ _ ih1 ih2 =>
    exact .ro (fun _ => hF _ (by simp)) (by rw [roifyL_length]; exact h2) h3 h4 (by rw [closedL_roify]; exact hc) (ih1 fun b hb => hF b (by simp [hb])) (ih2 fun b hb => hF b (by simp [hb]))
  | ref h1 h2 h3 hz _ ih => exact .ref h1 h2 h3 hz (ih hF)
  | ro0 h1 _ ih => exact .ro0 h1 (ih hF)
  | own0 h1 _ ih => exact ro_zero h1 (ih hF)
  | ref0 h1 h2 _ ih => exact .ref0 h1 h2 (ih hF)
  | ptr h1 _ ih => exact .ptr h1 (ih hF)
  | rop h1 h4 hc h5 _ ih1 ih2 => exact .rop (fun hl => hS _ (h1 hl)) h4 hc (h5.carry (L' := L) (U' := U) (fun b hb => ⟨hS b hb, rfl⟩) (fun i hi => ⟨hi, rfl⟩) (by simp) (Grows.refl _)) (ih2 hF)
  | ownp _ _ _ _ _ _ _ ih2 => exact .dead rfl (ih2 fun b hb => hF b (by simp [hb]))
  | dead h1 _ ih => exact .dead h1 (ih hF)
end

section
open Go Go.RowKit

def upd {α : Type} (f : Nat → α) (a : Nat) (b : α) : Nat → α := fun x => if x = a then b else f x

theorem upd_same {α : Type} (f : Nat → α) (a : Nat) (b : α) : upd f a b a = b := by simp [upd]

theorem upd_other {α : Type} (f : Nat → α) {a x : Nat} (b : α) (h : x ≠ a) : upd f a b x = f x := by simp [upd, h]

/-- What a node at `l` with these cells owns: without cells, nothing. -/
def OB (l : Nat) (G : List Nat) : List Cell → List Nat
  | [] => []
  | _ :: _ => l :: G

theorem OB_ne {l : Nat} {G : List Nat} {cs : List Cell} (h : cs ≠ []) : OB l G cs = l :: G := by cases cs with | nil => exact absurd rfl h | cons _ _ => rfl

theorem mem_OB {l : Nat} {G : List Nat} {cs : List Cell} {b : Nat} (h : b ∈ OB l G cs) : cs ≠ [] ∧ b ∈ l :: G := by
  cases cs with
  | nil => cases h
  | cons _ _ => exact ⟨by simp, h⟩

theorem nodup_OB {l : Nat} {G : List Nat} {cs : List Cell} (h : cs ≠ [] → (l :: G).Nodup) : (OB l G cs).Nodup := by
  cases cs with
  | nil => exact List.nodup_nil
  | cons _ _ => exact h (by simp)

/-- The blocks that node `id` owns: its own, and those of the slices within. -/
def Own (h : Nat → Option Node) (L : Nat → Nat × Nat) (F : Nat → List Nat) (id : Nat) : List Nat :=
  match h id with
  | some (true, cs) => OB (L id).1 (F id) cs
  | _ => []

/-- What a call starts from: the world, the blocks that stay as they are, the blocks that are handed in to be written. -/
structure Base where
  w0 : World
  S0 : Nat → Prop
  B0 : List Nat

/-- The blocks that nobody writes any more. -/
def SS (k : Base) (h : Nat → Option Node) (L : Nat → Nat × Nat) (F : Nat → List Nat) (w : World) (b : Nat) : Prop :=
  (k.S0 b ∨ b ∈ k.B0 ∨ k.w0.heap.size ≤ b) ∧ b < w.heap.size ∧ ∀ id, b ∉ Own h L F id

structure Mem (k : Base) (h : Nat → Option Node) (w : World) (L : Nat → Nat × Nat) (F : Nat → List Nat) (U : Nat → Prop) : Prop where
  S0lt : ∀ b, k.S0 b → b < k.w0.heap.size ∧ b ∉ k.B0
  B0lt : ∀ b ∈ k.B0, b < k.w0.heap.size
  node : ∀ id nd, h id = some nd → U id ∧ ∃ us, w.rangeAt (L id).1 (L id).2 us ∧ Rep (SS k h L F w) U L w us nd.2 (F id) ∧
    (nd.2 ≠ [] → Wr w (L id).1 ((L id).2 + us.length)) ∧ (nd.1 = false → F id = [] ∧ (nd.2 ≠ [] → SS k h L F w (L id).1))
  nodup : ∀ id, (Own h L F id).Nodup
  disj : ∀ i j, i ≠ j → ∀ b ∈ Own h L F i, b ∉ Own h L F j
  inB : ∀ id, ∀ b ∈ Own h L F id, k.w0.heap.size ≤ b ∨ b ∈ k.B0
  frame : ∀ b, b < k.w0.heap.size → b ∉ k.B0 → w.heap[b]? = k.w0.heap[b]?
  os : w.os = k.w0.os
  tape : w.tape = k.w0.tape
  output : w.output = k.w0.output
  grows : Grows k.w0 w
  gv : ∀ b, gBlk = some b → k.S0 b ∧ ∃ m, k.w0.cell? ⟨b, 0, none⟩ = some (.int .i64 m)

/-- Whatever stood for something before a step stands for it behind it. -/
def Mono (k : Base) (h : Nat → Option Node) (w : World) (L : Nat → Nat × Nat) (F : Nat → List Nat) (U : Nat → Prop)
    (h' : Nat → Option Node) (w' : World) (L' : Nat → Nat × Nat) (F' : Nat → List Nat) (U' : Nat → Prop) : Prop :=
  (∀ b, SS k h L F w b → SS k h' L' F' w' b ∧ w'.heap[b]? = w.heap[b]?) ∧ (∀ i, U i → U' i ∧ L' i = L i) ∧ Grows w w'

theorem Mono.refl (k : Base) (h w L F U) : Mono k h w L F U h w L F U := ⟨fun _ hb => ⟨hb, rfl⟩, fun _ hi => ⟨hi, rfl⟩, Grows.refl _⟩

theorem Mono.trans {k : Base} {h w L F U h' w' L' F' U' h'' w'' L'' F'' U''} (a : Mono k h w L F U h' w' L' F' U') (b : Mono k h' w' L' F' U' h'' w'' L'' F'' U'') :
    Mono k h w L F U h'' w'' L'' F'' U'' :=
  ⟨fun x hx => ⟨(b.1 x (a.1 x hx).1).1, (b.1 x (a.1 x hx).1).2.trans (a.1 x hx).2⟩, fun i hi => ⟨(b.2.1 i (a.2.1 i hi).1).1, (b.2.1 i (a.2.1 i hi).1).2.trans (a.2.1 i hi).2⟩, a.2.2.trans b.2.2⟩

theorem Mono.rep {k : Base} {h w L F U h' w' L' F' U'} (m : Mono k h w L F U h' w' L' F' U') {vs cs} (r : Rep (SS k h L F w) U L w vs cs []) :
    Rep (SS k h' L' F' w') U' L' w' vs cs [] := r.carry m.1 m.2.1 (by simp) m.2.2

theorem Mono.repF {k : Base} {h w L F U h' w' L' F' U'} (m : Mono k h w L F U h' w' L' F' U') {vs cs G} (r : Rep (SS k h L F w) U L w vs cs G)
    (hG : ∀ b ∈ G, w'.heap[b]? = w.heap[b]?) : Rep (SS k h' L' F' w') U' L' w' vs cs G := r.carry m.1 m.2.1 hG m.2.2

/-- How a value stands for what a slot holds. -/
def RV (S U : Nat → Prop) (L : Nat → Nat × Nat) (w : World) (x : Value) : Bool × List Cell → Prop
  | (false, l) => Rep S U L w [x] l []
  | (true, l) => ∃ vs : Array Value, x = .agg vs ∧ Rep S U L w vs.toList l []

def RTV (S U : Nat → Prop) (L : Nat → Nat × Nat) (w : World) (x : Value) : TV → Prop
  | .v b l => RV S U L w x (b, l)
  | .tup l => ∃ xs : Array Value, x = .tuple xs ∧ xs.toList.length = l.length ∧ ∀ (i : Nat) y c, xs.toList[i]? = some y → l[i]? = some c → RV S U L w y c
  | .undef => True

theorem Mono.rv {k : Base} {h w L F U h' w' L' F' U'} (m : Mono k h w L F U h' w' L' F' U') {x c} (r : RV (SS k h L F w) U L w x c) : RV (SS k h' L' F' w') U' L' w' x c := by
  obtain ⟨b, l⟩ := c
  cases b with
  | false => exact m.rep r
  | true => obtain ⟨vs, e, hr⟩ := r; exact ⟨vs, e, m.rep hr⟩

theorem Mono.rtv {k : Base} {h w L F U h' w' L' F' U'} (m : Mono k h w L F U h' w' L' F' U') {x tv} (r : RTV (SS k h L F w) U L w x tv) : RTV (SS k h' L' F' w') U' L' w' x tv := by
  cases tv with
  | v b l => exact m.rv (c := (b, l)) r
  | tup l => obtain ⟨xs, e, hl, hr⟩ := r; exact ⟨xs, e, hl, fun i y c h1 h2 => m.rv (hr i y c h1 h2)⟩
  | undef => trivial

theorem RV.cells {S U : Nat → Prop} {L w x b l} (r : RV S U L w x (b, l)) : Rep S U L w x.cells.toList l [] := by
  cases b with
  | false =>
    have h1 := Rep.one (show Rep S U L w [x] l [] from r) x (by simp)
    have : x.cells.toList = [x] := by cases x <;> simp_all [Value.cells, Value.oneCell']
    rw [this]; exact r
  | true => obtain ⟨vs, e, hr⟩ := r; subst e; exact hr

/-! ### One step of memory -/

section

variable {k : Base} {h : Nat → Option Node} {w : World} {L : Nat → Nat × Nat} {F : Nat → List Nat} {U : Nat → Prop}

theorem Own.lt (m : Mem k h w L F U) {id b : Nat} (hb : b ∈ Own h L F id) : b < w.heap.size := by
  unfold Own at hb
  split at hb
  · rename_i cs hh
    obtain ⟨_, us, _, hr, hw, _⟩ := m.node id _ hh
    obtain ⟨hne, hb⟩ := mem_OB hb
    rcases List.mem_cons.1 hb with rfl | hb
    · exact (hw hne).lt
    · exact hr.lt b hb
  · cases hb

/-- The heap as it was, block by block. -/
theorem Mem.same (m : Mem k h w L F U) {w' : World} (hh : w'.heap = w.heap) (ho : w'.os = w.os) (ht : w'.tape = w.tape) (hu : w'.output = w.output) :
    Mem k h w' L F U ∧ Mono k h w L F U h w' L F U := by
  have g : Grows w w' := ⟨by rw [hh]; exact Nat.le_refl _, fun b c e fr hb => ⟨c, by rw [hh]; exact hb, rfl⟩⟩
  have mo : Mono k h w L F U h w' L F U := ⟨fun b hb => ⟨⟨hb.1, by rw [hh]; exact hb.2.1, hb.2.2⟩, by rw [hh]⟩, fun i hi => ⟨hi, rfl⟩, g⟩
  refine ⟨⟨m.S0lt, m.B0lt, fun id nd hnd => ?_, m.nodup, m.disj, m.inB, fun b h1 h2 => by rw [hh]; exact m.frame b h1 h2, ho.trans m.os, ht.trans m.tape, hu.trans m.output, m.grows.trans g, m.gv⟩, mo⟩
  obtain ⟨hU, us, h1, h2, h3, h4⟩ := m.node id nd hnd
  exact ⟨hU, us, rangeAt_of_block (by rw [hh]) h1, mo.repF h2 (fun b _ => by rw [hh]), fun hne => (h3 hne).grows g, fun e => ⟨(h4 e).1, fun hne => (mo.1 _ ((h4 e).2 hne)).1⟩⟩

theorem heap_alloc_lt (w : World) (o : Obj) {b : Nat} (hb : b < w.heap.size) : (w.alloc o).heap[b]? = w.heap[b]? := Below.heap_alloc w o b hb

theorem grows_alloc (w : World) (o : Obj) : Grows w (w.alloc o) :=
  ⟨by simp, fun b c e fr hb => ⟨c, by rw [heap_alloc_lt _ _ (Array.getElem?_eq_some_iff.1 hb).1]; exact hb, rfl⟩⟩

theorem alloc_self (w : World) (o : Obj) : (w.alloc o).heap[w.heap.size]? = some o := by
  show (w.heap.push o)[w.heap.size]? = _
  simp

theorem wr_alloc (w : World) (c : Array Value) (e : TypeId) : Wr (w.alloc (.cells c e)) w.heap.size c.size :=
  ⟨c, e, 0, 0, alloc_self w _, Nat.le_refl _, by omega⟩

theorem rangeAt_alloc (w : World) (c : Array Value) (e : TypeId) (us : List Value) (o : Nat) (hus : ∀ (j : Nat) (v : Value), us[j]? = some v → c.toList[o + j]? = some v) : (w.alloc (.cells c e)).rangeAt w.heap.size o us := by
  intro j v hv
  have := hus j v hv
  simp only [World.cell?, alloc_self]
  simpa using this

/-- A new node, in a new block, or in a block that was nobody's: the general step. -/
theorem Mem.extend (m : Mem k h w L F U) {w' : World} {nid : Nat} (hn : h nid = none) (hU : ¬ U nid) {loc : Nat × Nat} {cells : List Cell} {G : List Nat} {us : List Value}
    (g : Grows w w') (hsame : ∀ b, b < w.heap.size → b ∉ OB loc.1 G cells → w'.heap[b]? = w.heap[b]?)
    (hout : ∀ id, ∀ b ∈ Own h L F id, b ∉ OB loc.1 G cells) (hS : ∀ b ∈ OB loc.1 G cells, ¬ SS k h L F w b) (hB : ∀ b ∈ OB loc.1 G cells, k.w0.heap.size ≤ b ∨ b ∈ k.B0)
    (hnd : (OB loc.1 G cells).Nodup) (hr : w'.rangeAt loc.1 loc.2 us)
    (hrep : ∀ (S' U' : Nat → Prop) (L' : Nat → Nat × Nat), (∀ b, SS k h L F w b → S' b ∧ w'.heap[b]? = w.heap[b]?) → (∀ i, U i → U' i ∧ L' i = L i) → Rep S' U' L' w' us cells G)
    (hw : cells ≠ [] → Wr w' loc.1 (loc.2 + us.length)) (ho : w'.os = w.os) (ht : w'.tape = w.tape) (hu : w'.output = w.output) :
    Mem k (upd h nid (some (true, cells))) w' (upd L nid loc) (upd F nid G) (fun i => U i ∨ i = nid) ∧
    Mono k h w L F U (upd h nid (some (true, cells))) w' (upd L nid loc) (upd F nid G) (fun i => U i ∨ i = nid) := by
  have hne : ∀ id, h id ≠ none → id ≠ nid := fun id h1 h2 => h1 (h2 ▸ hn)
  have hOwn : ∀ id, id ≠ nid → Own (upd h nid (some (true, cells))) (upd L nid loc) (upd F nid G) id = Own h L F id := fun id hid => by simp [Own, upd_other _ _ hid]
  have hOwnN : Own (upd h nid (some (true, cells))) (upd L nid loc) (upd F nid G) nid = OB loc.1 G cells := by simp [Own, upd_same]
  have hOwn0 : Own h L F nid = [] := by simp [Own, hn]
  have hSS : ∀ b, SS k h L F w b → SS k (upd h nid (some (true, cells))) (upd L nid loc) (upd F nid G) w' b ∧ w'.heap[b]? = w.heap[b]? := by
    intro b hb
    have hb' : b ∉ OB loc.1 G cells := fun hc => hS b hc hb
    refine ⟨⟨hb.1, Nat.lt_of_lt_of_le hb.2.1 g.1, fun id => ?_⟩, hsame b hb.2.1 hb'⟩
    by_cases hid : id = nid
    · subst hid; rw [hOwnN]; exact hb'
    · rw [hOwn id hid]; exact hb.2.2 id
  have hUU : ∀ i, U i → (U i ∨ i = nid) ∧ upd L nid loc i = L i := fun i hi => ⟨.inl hi, upd_other _ _ (fun e => hU (e ▸ hi))⟩
  have mo : Mono k h w L F U (upd h nid (some (true, cells))) w' (upd L nid loc) (upd F nid G) (fun i => U i ∨ i = nid) := ⟨hSS, hUU, g⟩
  refine ⟨⟨m.S0lt, m.B0lt, fun id nd hid => ?_, fun id => ?_, fun i j hij b hb => ?_, fun id b hb => ?_, fun b h1 h2 => ?_, ho.trans m.os, ht.trans m.tape, hu.trans m.output, m.grows.trans g, m.gv⟩, mo⟩
  · by_cases e : id = nid
    · subst e
      rw [upd_same] at hid
      obtain rfl := Option.some.inj hid
      exact ⟨.inr rfl, us, by rw [upd_same]; exact hr, by rw [upd_same]; exact hrep _ _ _ hSS hUU, by rw [upd_same]; exact hw, fun e => by cases e⟩
    · rw [upd_other _ _ e] at hid
      obtain ⟨hU', vs, h1, h2, h3, h4⟩ := m.node id nd hid
      obtain ⟨o, cs⟩ := nd
      by_cases hz : cs = []
      · subst hz
        obtain ⟨rfl, hF⟩ := rep_nil h2
        rw [upd_other _ _ e, upd_other _ _ e, hF]
        exact ⟨.inl hU', [], rangeAt_nil _ _ _, .nil, fun q => absurd rfl q, fun _ => ⟨rfl, fun q => absurd rfl q⟩⟩
      have hblk : ∀ b ∈ F id, w'.heap[b]? = w.heap[b]? := by
        intro b hb
        cases o with
        | false => rw [(h4 rfl).1] at hb; cases hb
        | true =>
          have : b ∈ Own h L F id := by simp [Own, hid, OB_ne hz, hb]
          exact hsame b (Own.lt m this) (hout id b this)
      have hL : w'.heap[(L id).1]? = w.heap[(L id).1]? := by
        cases o with
        | false => exact (hSS _ ((h4 rfl).2 hz)).2
        | true =>
          have : (L id).1 ∈ Own h L F id := by simp [Own, hid, OB_ne hz]
          exact hsame _ (Own.lt m this) (hout id _ this)
      rw [upd_other _ _ e, upd_other _ _ e]
      exact ⟨.inl hU', vs, rangeAt_of_block hL h1, mo.repF h2 hblk, fun hne => (h3 hne).grows g, fun e' => ⟨(h4 e').1, fun hne => (hSS _ ((h4 e').2 hne)).1⟩⟩
  · by_cases e : id = nid
    · subst e; rw [hOwnN]; exact hnd
    · rw [hOwn id e]; exact m.nodup id
  · by_cases e : i = nid
    · subst e
      rw [hOwnN] at hb
      rw [hOwn j (fun e => hij e.symm)]
      exact fun hc => hout j b hc hb
    · rw [hOwn i e] at hb
      by_cases e' : j = nid
      · subst e'; rw [hOwnN]; exact hout i b hb
      · rw [hOwn j e']; exact m.disj i j hij b hb
  · by_cases e : id = nid
    · subst e; rw [hOwnN] at hb; exact hB b hb
    · rw [hOwn id e] at hb; exact m.inB id b hb
  · have hb : b ∉ OB loc.1 G cells := fun hc => by
      rcases hB b hc with h3 | h3
      · omega
      · exact h2 h3
    exact (hsame b (Nat.lt_of_lt_of_le h1 m.grows.1) hb).trans (m.frame b h1 h2)

/-- A node without cells, out of nothing. -/
theorem Mem.virt (m : Mem k h w L F U) {nid : Nat} (hn : h nid = none) (hU : ¬ U nid) :
    Mem k (upd h nid (some (true, []))) w (upd L nid (0, 0)) (upd F nid []) (fun i => U i ∨ i = nid) ∧
    Mono k h w L F U (upd h nid (some (true, []))) w (upd L nid (0, 0)) (upd F nid []) (fun i => U i ∨ i = nid) :=
  m.extend hn hU (us := []) (Grows.refl w) (fun _ _ _ => rfl) (fun _ _ _ h => by cases h) (fun _ h => by cases h) (fun _ h => by cases h) List.nodup_nil (rangeAt_nil _ _ _) (fun _ _ _ _ _ => .nil) (fun q => absurd rfl q) rfl rfl rfl

/-- A new block of cells, a node of its own. -/
theorem Mem.alloc (m : Mem k h w L F U) {nid : Nat} (hn : h nid = none) (hU : ¬ U nid) {c : Array Value} (e : TypeId) {us : List Value} {cells : List Cell} (hr : Rep (SS k h L F w) U L w us cells [])
    (hus : ∀ (j : Nat) (v : Value), us[j]? = some v → c.toList[j]? = some v) (hle : us.length ≤ c.size) :
    Mem k (upd h nid (some (true, cells))) (w.alloc (.cells c e)) (upd L nid (w.heap.size, 0)) (upd F nid []) (fun i => U i ∨ i = nid) ∧
    Mono k h w L F U (upd h nid (some (true, cells))) (w.alloc (.cells c e)) (upd L nid (w.heap.size, 0)) (upd F nid []) (fun i => U i ∨ i = nid) := by
  refine m.extend hn hU (us := us) (grows_alloc w _) (fun b hb _ => heap_alloc_lt w _ hb) (fun id b hb hc => ?_) (fun b hb hc => ?_) (fun b hb => ?_) (nodup_OB fun _ => by simp) (rangeAt_alloc w c e us 0 (by simpa using hus))
    (fun S' U' L' h1 h2 => hr.carry (fun b hb => ⟨(h1 b hb).1, heap_alloc_lt w _ hb.2.1⟩) h2 (by simp) (grows_alloc w _)) (fun _ => (wr_alloc w c e).mono (by simpa using hle)) rfl rfl rfl
  · have := Own.lt m hb; have hc := (mem_OB hc).2; simp at hc; omega
  · have := hc.2.1; have hb := (mem_OB hb).2; simp at hb; omega
  · have hb := (mem_OB hb).2; simp at hb; subst hb; exact .inl m.grows.1

end
end

section
open Go Go.RowKit

section

variable {k : Base} {h : Nat → Option Node} {w : World} {L : Nat → Nat × Nat} {F : Nat → List Nat} {U : Nat → Prop}

/-- The general step: what is owned behind it was owned before, or is new. -/
theorem Mem.master (m : Mem k h w L F U) {h' : Nat → Option Node} {w' : World} {L' : Nat → Nat × Nat} {F' : Nat → List Nat} {U' : Nat → Prop}
    (g : Grows w w') (ho : w'.os = w.os) (ht : w'.tape = w.tape) (hu : w'.output = w.output)
    (hown : ∀ i, ∀ b ∈ Own h' L' F' i, (∃ j, b ∈ Own h L F j) ∨ w.heap.size ≤ b)
    (nodup : ∀ i, (Own h' L' F' i).Nodup) (disj : ∀ i j, i ≠ j → ∀ b ∈ Own h' L' F' i, b ∉ Own h' L' F' j)
    (hsame : ∀ b, b < w.heap.size → (∀ j, b ∉ Own h L F j) → w'.heap[b]? = w.heap[b]?)
    (hU : ∀ i, U i → U' i ∧ L' i = L i)
    (node : Mono k h w L F U h' w' L' F' U' → ∀ id nd, h' id = some nd → U' id ∧ ∃ us, w'.rangeAt (L' id).1 (L' id).2 us ∧ Rep (SS k h' L' F' w') U' L' w' us nd.2 (F' id) ∧
      (nd.2 ≠ [] → Wr w' (L' id).1 ((L' id).2 + us.length)) ∧ (nd.1 = false → F' id = [] ∧ (nd.2 ≠ [] → SS k h' L' F' w' (L' id).1))) :
    Mem k h' w' L' F' U' ∧ Mono k h w L F U h' w' L' F' U' := by
  have mo : Mono k h w L F U h' w' L' F' U' := by
    refine ⟨fun b hb => ⟨⟨hb.1, Nat.lt_of_lt_of_le hb.2.1 g.1, fun i hc => ?_⟩, hsame b hb.2.1 hb.2.2⟩, hU, g⟩
    rcases hown i b hc with ⟨j, hj⟩ | hj
    · exact hb.2.2 j hj
    · have := hb.2.1; omega
  refine ⟨⟨m.S0lt, m.B0lt, node mo, nodup, disj, fun i b hb => ?_, fun b h1 h2 => ?_, ho.trans m.os, ht.trans m.tape, hu.trans m.output, m.grows.trans g, m.gv⟩, mo⟩
  · rcases hown i b hb with ⟨j, hj⟩ | hj
    · exact m.inB j b hj
    · exact .inl (Nat.le_trans m.grows.1 hj)
  · refine (hsame b (Nat.lt_of_lt_of_le h1 m.grows.1) fun j hj => ?_).trans (m.frame b h1 h2)
    rcases m.inB j b hj with h3 | h3
    · omega
    · exact h2 h3

/-- A node that the step leaves alone. -/
theorem Mem.keep (m : Mem k h w L F U) {h' : Nat → Option Node} {w' : World} {L' : Nat → Nat × Nat} {F' : Nat → List Nat} {U' : Nat → Prop}
    (mo : Mono k h w L F U h' w' L' F' U') {id : Nat} {nd : Node} (hid : h id = some nd) (hF : F' id = F id) (hs : ∀ b ∈ Own h L F id, w'.heap[b]? = w.heap[b]?) :
    U' id ∧ ∃ us, w'.rangeAt (L' id).1 (L' id).2 us ∧ Rep (SS k h' L' F' w') U' L' w' us nd.2 (F' id) ∧
      (nd.2 ≠ [] → Wr w' (L' id).1 ((L' id).2 + us.length)) ∧ (nd.1 = false → F' id = [] ∧ (nd.2 ≠ [] → SS k h' L' F' w' (L' id).1)) := by
  obtain ⟨hU, us, h1, h2, h3, h4⟩ := m.node id nd hid
  obtain ⟨hU', hL⟩ := mo.2.1 id hU
  rw [hF, hL]
  obtain ⟨o, cs⟩ := nd
  by_cases hz : cs = []
  · subst hz
    obtain ⟨rfl, hF0⟩ := rep_nil h2
    rw [hF0]
    exact ⟨hU', [], rangeAt_nil _ _ _, .nil, fun q => absurd rfl q, fun _ => ⟨rfl, fun q => absurd rfl q⟩⟩
  have hb : ∀ b ∈ (L id).1 :: F id, w'.heap[b]? = w.heap[b]? := by
    cases o with
    | false =>
      intro b hb
      rw [(h4 rfl).1] at hb
      rcases List.mem_singleton.1 hb with rfl
      exact (mo.1 _ ((h4 rfl).2 hz)).2
    | true => intro b hb; exact hs b (by simpa [Own, hid, OB_ne hz] using hb)
  exact ⟨hU', us, rangeAt_of_block (hb _ (by simp)) h1, mo.repF h2 (fun b hm => hb b (by simp [hm])), fun hne => (h3 hne).grows mo.2.2, fun e => ⟨(h4 e).1, fun hne => (mo.1 _ ((h4 e).2 hne)).1⟩⟩

theorem own_of {h : Nat → Option Node} {L F id cs} (hid : h id = some (true, cs)) : Own h L F id = OB (L id).1 (F id) cs := by simp [Own, hid]

theorem own_ne {h : Nat → Option Node} {L F id cs} (hid : h id = some (true, cs)) (hz : cs ≠ []) : Own h L F id = (L id).1 :: F id := by rw [own_of hid, OB_ne hz]

/-- Node `id` is changed in place: only blocks of its own turn. -/
theorem Mem.change (m : Mem k h w L F U) {w' : World} {id : Nat} {cs cs' : List Cell} {G : List Nat} {us : List Value} (hid : h id = some (true, cs)) (hz : cs ≠ [])
    (g : Grows w w') (ho : w'.os = w.os) (ht : w'.tape = w.tape) (hu : w'.output = w.output)
    (hsame : ∀ b, b ∉ Own h L F id → w'.heap[b]? = w.heap[b]?) (hG : ∀ b ∈ G, b ∈ F id) (hnd : G.Nodup)
    (hr : w'.rangeAt (L id).1 (L id).2 us) (hw : Wr w' (L id).1 ((L id).2 + us.length))
    (hrep : ∀ S' : Nat → Prop, (∀ b, SS k h L F w b → S' b ∧ w'.heap[b]? = w.heap[b]?) → Rep S' U L w' us cs' G) :
    Mem k (upd h id (some (true, cs'))) w' L (upd F id G) U ∧ Mono k h w L F U (upd h id (some (true, cs'))) w' L (upd F id G) U := by
  have hO : ∀ i, ∀ b ∈ Own (upd h id (some (true, cs'))) L (upd F id G) i, b ∈ Own h L F i := by
    intro i b hb
    by_cases e : i = id
    · subst e
      rw [own_ne hid hz]
      rw [own_of (upd_same _ _ _), upd_same] at hb
      have hb := (mem_OB hb).2
      simp at hb
      rcases hb with rfl | hb
      · simp
      · simp [hG b hb]
    · simpa [Own, upd_other _ _ e] using hb
  have hnd0 : ((L id).1 :: F id).Nodup := by have := m.nodup id; rwa [own_ne hid hz] at this
  refine m.master g ho ht hu (fun i b hb => .inl ⟨i, hO i b hb⟩) (fun i => ?_) (fun i j hij b hb hc => m.disj i j hij b (hO i b hb) (hO j b hc)) (fun b _ hn => hsame b (hn id)) (fun i hi => ⟨hi, rfl⟩) (fun mo i nd hi => ?_)
  · by_cases e : i = id
    · subst e
      rw [own_of (upd_same _ _ _), upd_same]
      exact nodup_OB fun _ => List.nodup_cons.2 ⟨fun hc => (List.nodup_cons.1 hnd0).1 (hG _ hc), hnd⟩
    · have : Own (upd h id (some (true, cs'))) L (upd F id G) i = Own h L F i := by simp [Own, upd_other _ _ e]
      rw [this]; exact m.nodup i
  · by_cases e : i = id
    · subst e
      rw [upd_same] at hi
      obtain rfl := Option.some.inj hi
      exact ⟨(m.node i _ hid).1, us, hr, by rw [upd_same]; exact hrep _ mo.1, fun _ => hw, fun e => by cases e⟩
    · rw [upd_other _ _ e] at hi
      refine m.keep mo hi (upd_other _ _ e) (fun b hb => hsame b (m.disj i id e b hb))

theorem heap_setCells_ne (w : World) (g o : Nat) (vs : List Value) {i : Nat} (hne : i ≠ g) : (w.setCells g o vs).heap[i]? = w.heap[i]? := by
  induction vs generalizing o w with
  | nil => rfl
  | cons v r ih => rw [World.setCells, ih, Below.heap_setCell _ _ _ _ hne]

theorem grows_setCell (w : World) (a : Addr) (v : Value) : Grows w (w.setCell a v) := by
  refine ⟨by simp [World.setCell], fun b c e fr hb => ?_⟩
  simp only [World.setCell, Array.getElem?_modify]
  by_cases hab : a.block = b
  · rw [if_pos hab, hb]
    simp
    split <;> simp
  · rw [if_neg hab]; exact ⟨c, hb, rfl⟩

theorem grows_setCells (b : Nat) : ∀ (vs : List Value) (o : Nat) (w : World), Grows w (w.setCells b o vs)
  | [], _, w => Grows.refl w
  | v :: r, o, w => (grows_setCell w _ v).trans (grows_setCells b r (o + 1) _)

theorem setCells_os (b : Nat) : ∀ (vs : List Value) (o : Nat) (w : World), (w.setCells b o vs).os = w.os ∧ (w.setCells b o vs).tape = w.tape ∧ (w.setCells b o vs).output = w.output
  | [], _, _ => ⟨rfl, rfl, rfl⟩
  | v :: r, o, w => setCells_os b r (o + 1) (w.setCell ⟨b, o, none⟩ v)

theorem rangeAt_append {w : World} {b o : Nat} {us vs : List Value} (h1 : w.rangeAt b o us) (h2 : w.rangeAt b (o + us.length) vs) : w.rangeAt b o (us ++ vs) := by
  intro j v hv
  by_cases hj : j < us.length
  · rw [List.getElem?_append_left hj] at hv; exact h1 j v hv
  · rw [List.getElem?_append_right (by omega)] at hv
    have := h2 _ v hv
    rwa [show o + us.length + (j - us.length) = o + j by omega] at this

theorem rangeAt_left {w : World} {b o : Nat} {us vs : List Value} (h : w.rangeAt b o (us ++ vs)) : w.rangeAt b o us := by
  intro j v hv
  have hj : j < us.length := (List.getElem?_eq_some_iff.1 hv).1
  exact h j v (by rw [List.getElem?_append_left hj]; exact hv)

theorem rangeAt_right {w : World} {b o : Nat} {us vs : List Value} (h : w.rangeAt b o (us ++ vs)) : w.rangeAt b (o + us.length) vs := by
  intro j v hv
  have := h (us.length + j) v (by rw [List.getElem?_append_right (by omega)]; simpa using hv)
  rwa [← Nat.add_assoc] at this

theorem rangeAt_setCells_self {w : World} {b o : Nat} {vs : List Value} (ht : w.there b o vs.length) : (w.setCells b o vs).rangeAt b o vs :=
  World.rangeAt_setCells_same w b o vs ht

theorem rangeAt_setCells_out {w : World} {b o o' : Nat} {us vs : List Value} (h : w.rangeAt b o' us) (hd : o' + us.length ≤ o ∨ o + vs.length ≤ o') : (w.setCells b o vs).rangeAt b o' us := by
  intro j v hv
  have hj : j < us.length := (List.getElem?_eq_some_iff.1 hv).1
  rw [World.cell?_setCells_out b vs o w _ (fun _ _ => by show o' + j < o ∨ o + vs.length ≤ o' + j; omega)]
  exact h j v hv

/-- Cells of a node are written. -/
theorem Mem.write (m : Mem k h w L F U) {id : Nat} {A B C B' : List Cell} {vs : List Value} (hid : h id = some (true, A ++ B ++ C)) (hl : B'.length = B.length)
    (hr : Rep (SS k h L F w) U L w vs B' []) :
    ∃ G, Mem k (upd h id (some (true, A ++ B' ++ C))) (w.setCells (L id).1 ((L id).2 + A.length) vs) L (upd F id G) U ∧
      Mono k h w L F U (upd h id (some (true, A ++ B' ++ C))) (w.setCells (L id).1 ((L id).2 + A.length) vs) L (upd F id G) U ∧
      w.there (L id).1 ((L id).2 + A.length) vs.length := by
  by_cases hB : B = []
  · subst hB
    obtain rfl : B' = [] := by simpa using hl
    obtain ⟨rfl, _⟩ := rep_nil hr
    have e : upd h id (some (true, A ++ [] ++ C)) = h := by funext x; by_cases q : x = id <;> simp [upd, q, hid]
    have e2 : upd F id (F id) = F := by funext x; by_cases q : x = id <;> simp [upd, q]
    refine ⟨F id, ?_, ?_, fun j hj => by simp at hj⟩
    · rw [e, e2]; exact m
    · rw [e, e2]; exact Mono.refl _ _ _ _ _ _
  have hz : A ++ B ++ C ≠ [] := by simp [hB]
  obtain ⟨_, us, h1, h2, h3', _⟩ := m.node id _ hid
  have h3 := h3' hz
  simp only at h2
  obtain ⟨usAB, usC, FAB, FC, rfl, eF, rAB, rC⟩ := h2.split
  obtain ⟨usA, usB, FA, FB, rfl, rfl, rA, rB⟩ := rAB.split
  have lA := rA.length; have lB := rB.length; have lC := rC.length; have lv := hr.length
  have hth : w.there (L id).1 ((L id).2 + A.length) vs.length := h3.there (by simp; omega)
  have hnd := m.nodup id
  rw [own_ne hid hz, eF] at hnd
  have hb : (L id).1 ∉ FA ++ FB ++ FC := (List.nodup_cons.1 hnd).1
  have hnd2 := (List.nodup_cons.1 hnd).2
  have ne : ∀ b ∈ FA ++ FC, b ≠ (L id).1 := fun b hb' e => hb (by subst e; simp at hb' ⊢; rcases hb' with h | h <;> simp [h])
  have g := grows_setCells (L id).1 vs ((L id).2 + A.length) w
  have os := setCells_os (L id).1 vs ((L id).2 + A.length) w
  refine ⟨FA ++ FC, ?_, ?_, hth⟩
  all_goals
    have := m.change (w' := w.setCells (L id).1 ((L id).2 + A.length) vs) (cs' := A ++ B' ++ C) (G := FA ++ FC) (us := usA ++ vs ++ usC) hid hz g os.1 os.2.1 os.2.2
      (fun b hb' => heap_setCells_ne w _ _ _ (fun e => hb' (by rw [own_ne hid hz, e]; simp)))
      (fun b hb' => by rw [eF]; simp at hb' ⊢; rcases hb' with h | h <;> simp [h])
      (by
        rw [List.append_assoc] at hnd2
        obtain ⟨n1, n2, n3⟩ := List.nodup_append.1 hnd2
        obtain ⟨n4, n5, n6⟩ := List.nodup_append.1 n2
        exact List.nodup_append.2 ⟨n1, n5, fun a ha b hb' => n3 a ha b (by simp [hb'])⟩)
      (by
        refine rangeAt_append (rangeAt_append ?_ ?_) ?_
        · exact rangeAt_setCells_out (rangeAt_left (rangeAt_left h1)) (.inl (by omega))
        · rw [lA]; exact rangeAt_setCells_self hth
        · have := rangeAt_right h1
          refine rangeAt_setCells_out ?_ (.inr (by simp; omega))
          simp at this ⊢
          rwa [show usA.length + vs.length = usA.length + usB.length by omega])
      ((h3.grows g).mono (by simp; omega))
      (fun S' hS' => by
        have hU' : ∀ i, U i → U i ∧ L i = L i := fun i hi => ⟨hi, rfl⟩
        have := ((rA.carry hS' hU' (fun b hb' => heap_setCells_ne w _ _ _ (ne b (by simp [hb']))) g).append (hr.carry hS' hU' (by simp) g)).append
          (rC.carry hS' hU' (fun b hb' => heap_setCells_ne w _ _ _ (ne b (by simp [hb']))) g)
        simpa using this)
  · exact this.1
  · exact this.2

end
end

section
open Go Go.RowKit

section

variable {k : Base} {h : Nat → Option Node} {w : World} {L : Nat → Nat × Nat} {F : Nat → List Nat} {U : Nat → Prop}

/-- Node `id` goes, and what it had, or some of it, is in node `nid`, in its old block or a new one. -/
theorem Mem.moved (m : Mem k h w L F U) {w' : World} {id nid : Nat} {cs cs' : List Cell} {G : List Nat} {us : List Value} {loc : Nat × Nat}
    (hid : h id = some (true, cs)) (hn : h nid = none) (hU : ¬ U nid)
    (g : Grows w w') (ho : w'.os = w.os) (ht : w'.tape = w.tape) (hu : w'.output = w.output)
    (hsame : ∀ b, b < w.heap.size → b ∉ Own h L F id → w'.heap[b]? = w.heap[b]?) (hG : ∀ b ∈ G, b ∈ F id) (hnd : G.Nodup) (hloc : (cs ≠ [] ∧ loc.1 = (L id).1) ∨ w.heap.size ≤ loc.1 ∨ cs' = [])
    (hr : w'.rangeAt loc.1 loc.2 us) (hw : cs' ≠ [] → Wr w' loc.1 (loc.2 + us.length))
    (hrep : ∀ (S' U' : Nat → Prop) (L' : Nat → Nat × Nat), (∀ b, SS k h L F w b → S' b ∧ w'.heap[b]? = w.heap[b]?) → (∀ i, U i → U' i ∧ L' i = L i) → Rep S' U' L' w' us cs' G) :
    Mem k (upd (upd h id none) nid (some (true, cs'))) w' (upd L nid loc) (upd F nid G) (fun i => U i ∨ i = nid) ∧
    Mono k h w L F U (upd (upd h id none) nid (some (true, cs'))) w' (upd L nid loc) (upd F nid G) (fun i => U i ∨ i = nid) := by
  have hne : id ≠ nid := fun e => by rw [e, hn] at hid; cases hid
  have ON : Own (upd (upd h id none) nid (some (true, cs'))) (upd L nid loc) (upd F nid G) nid = OB loc.1 G cs' := by simp [Own, upd_same]
  have OI : Own (upd (upd h id none) nid (some (true, cs'))) (upd L nid loc) (upd F nid G) id = [] := by simp [Own, upd_other _ _ hne, upd_same]
  have OO : ∀ i, i ≠ nid → i ≠ id → Own (upd (upd h id none) nid (some (true, cs'))) (upd L nid loc) (upd F nid G) i = Own h L F i := fun i e1 e2 => by
    simp [Own, upd_other _ _ e1, upd_other _ _ e2]
  have hF0 : cs = [] → F id = [] := fun e => by
    obtain ⟨_, us0, _, h2, _⟩ := m.node id _ hid
    subst e; exact (rep_nil h2).2
  have hN : ∀ b ∈ OB loc.1 G cs', b ∈ Own h L F id ∨ w.heap.size ≤ b := by
    intro b hb
    obtain ⟨hz', hb⟩ := mem_OB hb
    rcases List.mem_cons.1 hb with rfl | hb
    · rcases hloc with ⟨hz, e⟩ | e | e
      · left; rw [own_ne hid hz, e]; simp
      · exact .inr e
      · exact absurd e hz'
    · by_cases hz : cs = []
      · have := hG b hb; rw [hF0 hz] at this; cases this
      · exact .inl (by rw [own_ne hid hz]; simp [hG b hb])
  have hlt : ∀ i, ∀ b ∈ Own h L F i, b < w.heap.size := fun i b hb => Own.lt m hb
  refine m.master g ho ht hu (fun i b hb => ?_) (fun i => ?_) (fun i j hij b hb hc => ?_) (fun b hb hn => hsame b hb (hn id)) (fun i hi => ⟨.inl hi, upd_other _ _ (fun e => hU (e ▸ hi))⟩) (fun mo i nd hi => ?_)
  · by_cases e1 : i = nid
    · subst e1; rw [ON] at hb
      rcases hN b hb with h1 | h1
      · exact .inl ⟨id, h1⟩
      · exact .inr h1
    · by_cases e2 : i = id
      · subst e2; rw [OI] at hb; cases hb
      · rw [OO i e1 e2] at hb; exact .inl ⟨i, hb⟩
  · by_cases e1 : i = nid
    · subst e1; rw [ON]
      refine nodup_OB fun hz' => List.nodup_cons.2 ⟨fun hc => ?_, hnd⟩
      have hz : cs ≠ [] := fun e => by have := hG _ hc; rw [hF0 e] at this; cases this
      have hnd0 : ((L id).1 :: F id).Nodup := by have := m.nodup id; rwa [own_ne hid hz] at this
      rcases hloc with ⟨_, e⟩ | e | e
      · exact (List.nodup_cons.1 hnd0).1 (by rw [← e]; exact hG _ hc)
      · have := hlt id loc.1 (by rw [own_ne hid hz]; simp [hG _ hc]); omega
      · exact absurd e hz'
    · by_cases e2 : i = id
      · subst e2; rw [OI]; simp
      · rw [OO i e1 e2]; exact m.nodup i
  · have key : ∀ j, j ≠ nid → j ≠ id → ∀ b ∈ Own h L F j, b ∉ OB loc.1 G cs' := fun j _ e2 b hb hc => by
      rcases hN b hc with h1 | h1
      · exact m.disj j id e2 b hb h1
      · have := hlt j b hb; omega
    by_cases e1 : i = nid
    · subst e1; rw [ON] at hb
      have e3 : j ≠ i := fun e => hij e.symm
      by_cases e2 : j = id
      · subst e2; rw [OI] at hc; cases hc
      · rw [OO j e3 e2] at hc; exact key j e3 e2 b hc hb
    · by_cases e2 : i = id
      · subst e2; rw [OI] at hb; cases hb
      · rw [OO i e1 e2] at hb
        by_cases e3 : j = nid
        · subst e3; rw [ON] at hc; exact key i e1 e2 b hb hc
        · by_cases e4 : j = id
          · subst e4; rw [OI] at hc; cases hc
          · rw [OO j e3 e4] at hc; exact m.disj i j hij b hb hc
  · by_cases e1 : i = nid
    · subst e1
      rw [upd_same] at hi
      obtain rfl := Option.some.inj hi
      exact ⟨.inr rfl, us, by rw [upd_same]; exact hr, by rw [upd_same]; exact hrep _ _ _ mo.1 mo.2.1, by rw [upd_same]; exact hw, fun e => by cases e⟩
    · by_cases e2 : i = id
      · subst e2; rw [upd_other _ _ e1, upd_same] at hi; cases hi
      · rw [upd_other _ _ e1, upd_other _ _ e2] at hi
        exact m.keep mo hi (upd_other _ _ e1) (fun b hb => hsame b (hlt i b hb) (m.disj i id e2 b hb))

/-- `append` to a slice of a node, where there is room (or nothing is put there). -/
theorem Mem.appendIn (m : Mem k h w L F U) {id nid : Nat} {A B C N : List Cell} {vs : List Value} (hid : h id = some (true, A ++ B ++ C)) (hn : h nid = none) (hU : ¬ U nid)
    (hr : Rep (SS k h L F w) U L w vs N []) {m' : Nat} (hB : B ≠ []) (hW : Wr w (L id).1 m') (hm : (L id).2 + A.length + B.length + vs.length ≤ m') :
    ∃ G, Mem k (upd (upd h id none) nid (some (true, B ++ N))) (w.setCells (L id).1 ((L id).2 + A.length + B.length) vs) (upd L nid ((L id).1, (L id).2 + A.length)) (upd F nid G) (fun i => U i ∨ i = nid) ∧
      Mono k h w L F U (upd (upd h id none) nid (some (true, B ++ N))) (w.setCells (L id).1 ((L id).2 + A.length + B.length) vs) (upd L nid ((L id).1, (L id).2 + A.length)) (upd F nid G) (fun i => U i ∨ i = nid) ∧
      w.there (L id).1 ((L id).2 + A.length + B.length) vs.length := by
  have hz : A ++ B ++ C ≠ [] := by simp [hB]
  obtain ⟨_, us, h1, h2, h3', _⟩ := m.node id _ hid
  have h3 := h3' hz
  simp only at h2
  obtain ⟨usAB, usC, FAB, FC, rfl, eF, rAB, rC⟩ := h2.split
  obtain ⟨usA, usB, FA, FB, rfl, rfl, rA, rB⟩ := rAB.split
  have lA := rA.length; have lB := rB.length; have lC := rC.length; have lv := hr.length
  have hth : w.there (L id).1 ((L id).2 + A.length + B.length) vs.length := hW.there hm
  have hnd := m.nodup id
  rw [own_ne hid hz, eF] at hnd
  have hb : (L id).1 ∉ FA ++ FB ++ FC := (List.nodup_cons.1 hnd).1
  have hnd2 := (List.nodup_cons.1 hnd).2
  have g := grows_setCells (L id).1 vs ((L id).2 + A.length + B.length) w
  have os := setCells_os (L id).1 vs ((L id).2 + A.length + B.length) w
  have := m.moved (w' := w.setCells (L id).1 ((L id).2 + A.length + B.length) vs) (cs' := B ++ N) (G := FB) (us := usB ++ vs) (loc := ((L id).1, (L id).2 + A.length)) hid hn hU g os.1 os.2.1 os.2.2
    (fun b _ hb' => heap_setCells_ne w _ _ _ (fun e => hb' (by rw [own_ne hid hz, e]; simp)))
    (fun b hb' => by rw [eF]; simp [hb'])
    (by
      obtain ⟨n1, _, _⟩ := List.nodup_append.1 hnd2
      exact (List.nodup_append.1 n1).2.1)
    (.inl ⟨hz, rfl⟩)
    (by
      refine rangeAt_append ?_ ?_
      · refine rangeAt_setCells_out ?_ (.inl (by simp; omega))
        have := rangeAt_right (rangeAt_left h1)
        rwa [lA] at this
      · have := rangeAt_setCells_self hth
        simpa [lB] using this)
    (fun _ => (hW.grows g).mono (by simp; omega))
    (fun S' U' L' hS' hU' => by
      have := (rB.carry hS' hU' (fun b hb' => heap_setCells_ne w _ _ _ (fun e => hb (by subst e; simp [hb']))) g).append (hr.carry hS' hU' (by simp) g)
      simpa using this)
  exact ⟨FB, this.1, this.2, hth⟩

/-- A node goes, another one without cells comes: nothing turns. -/
theorem Mem.swap0 (m : Mem k h w L F U) {id nid : Nat} {cs : List Cell} (hid : h id = some (true, cs)) (hn : h nid = none) (hU : ¬ U nid) :
    ∃ F', Mem k (upd (upd h id none) nid (some (true, []))) w (upd L nid (0, 0)) F' (fun i => U i ∨ i = nid) ∧
      Mono k h w L F U (upd (upd h id none) nid (some (true, []))) w (upd L nid (0, 0)) F' (fun i => U i ∨ i = nid) := by
  have := m.moved (w' := w) (cs' := []) (G := []) (us := []) (loc := (0, 0)) hid hn hU (Grows.refl w) rfl rfl rfl (fun _ _ _ => rfl) (fun _ hb => by cases hb) List.nodup_nil (.inr (.inr rfl)) (rangeAt_nil _ _ _) (fun q => absurd rfl q)
    (fun _ _ _ _ _ => .nil)
  exact ⟨_, this.1, this.2⟩

/-- .. and where there is none: a new block. -/
theorem Mem.appendNew (m : Mem k h w L F U) {id nid : Nat} {A B C N : List Cell} {vs rest : List Value} (e : TypeId) (hid : h id = some (true, A ++ B ++ C)) (hn : h nid = none) (hU : ¬ U nid)
    (hr : Rep (SS k h L F w) U L w vs N []) :
    ∃ G olds, w.rangeAt (L id).1 ((L id).2 + A.length) olds ∧ olds.length = B.length ∧
      ∀ c : Array Value, c.toList = olds ++ vs ++ rest →
      Mem k (upd (upd h id none) nid (some (true, B ++ N))) (w.alloc (.cells c e)) (upd L nid (w.heap.size, 0)) (upd F nid G) (fun i => U i ∨ i = nid) ∧
      Mono k h w L F U (upd (upd h id none) nid (some (true, B ++ N))) (w.alloc (.cells c e)) (upd L nid (w.heap.size, 0)) (upd F nid G) (fun i => U i ∨ i = nid) := by
  obtain ⟨_, us, h1, h2, h3, _⟩ := m.node id _ hid
  simp only at h2
  obtain ⟨usAB, usC, FAB, FC, rfl, eF, rAB, rC⟩ := h2.split
  obtain ⟨usA, usB, FA, FB, rfl, rfl, rA, rB⟩ := rAB.split
  have lA := rA.length; have lB := rB.length; have lv := hr.length
  have hndB : FB.Nodup := by
    by_cases hz : A ++ B ++ C = []
    · obtain ⟨rfl, rfl, rfl⟩ : A = [] ∧ B = [] ∧ C = [] := by simpa using hz
      rw [(rep_nil rB).2]; exact List.nodup_nil
    · have hnd := m.nodup id
      rw [own_ne hid hz, eF] at hnd
      have hnd2 := (List.nodup_cons.1 hnd).2
      obtain ⟨n1, _, _⟩ := List.nodup_append.1 hnd2
      exact (List.nodup_append.1 n1).2.1
  refine ⟨FB, usB, ?_, lB, fun c hc => ?_⟩
  · have := rangeAt_right (rangeAt_left h1); rwa [lA] at this
  · have g := grows_alloc w (.cells c e)
    have hF : ∀ b ∈ FB, (w.alloc (.cells c e)).heap[b]? = w.heap[b]? := fun b hb => heap_alloc_lt w _ (h2.lt b (by rw [eF]; simp [hb]))
    exact m.moved (w' := w.alloc (.cells c e)) (cs' := B ++ N) (G := FB) (us := usB ++ vs) (loc := (w.heap.size, 0)) hid hn hU g rfl rfl rfl
      (fun b hb _ => heap_alloc_lt w _ hb)
      (fun b hb' => by rw [eF]; simp [hb'])
      hndB
      (.inr (.inl (Nat.le_refl _)))
      (rangeAt_alloc w c e (usB ++ vs) 0 (fun j v hv => by
        rw [hc, Nat.zero_add, List.getElem?_append_left (List.getElem?_eq_some_iff.1 hv).1]; exact hv))
      (fun _ => (wr_alloc w c e).mono (by
        have : c.size = (usB ++ vs ++ rest).length := by rw [← hc]; simp
        simp at this ⊢; omega))
      (fun S' U' L' hS' hU' => by
        have := (rB.carry hS' hU' hF g).append (hr.carry hS' hU' (by simp) g)
        simpa using this)

end
end

section
open Go Go.RowKit

section

variable {k : Base} {h : Nat → Option Node} {w : World} {L : Nat → Nat × Nat} {F : Nat → List Nat} {U : Nat → Prop}

/-- A node that is led to by a cell of another one becomes a part of that cell. -/
theorem Mem.inline (m : Mem k h w L F U) {i j n s : Nat} {A C cs : List Cell} (hij : i ≠ j) (hi : h i = some (true, A ++ [.ref j 0 n s] ++ C)) (hj : h j = some (true, cs))
    (hs : cs.all Cell.shal = true) (hl : cs.length = n * s) (hsz : s ≠ 0) :
    ∃ F', Mem k (upd (upd h j none) i (some (true, A ++ [.sl true n s cs] ++ C))) w L F' U ∧ Mono k h w L F U (upd (upd h j none) i (some (true, A ++ [.sl true n s cs] ++ C))) w L F' U := by
  have hzi : ∀ c : Cell, A ++ [c] ++ C ≠ [] := fun c => by simp
  obtain ⟨_, us, h1, h2, h3, _⟩ := m.node i _ hi
  obtain ⟨_, vs, g1, g2, g3, _⟩ := m.node j _ hj
  have h3 := h3 (hzi _)
  simp only at h2 g2
  obtain ⟨usAB, usC, FAB, FC, rfl, eF, rAB, rC⟩ := h2.split
  obtain ⟨usA, usB, FA, FB, rfl, rfl, rA, rB⟩ := rAB.split
  have hcl := g2.closed hs
  have hmidAll : FB = [] ∧ ∀ S' : Nat → Prop, Rep S' U L w vs cs (F j) → Rep S' U L w usB [.sl true n s cs] (OB (L j).1 (F j) cs) := by
    cases rB with
    | ref a1 a2 a3 hz a4 =>
      cases a4
      refine ⟨rfl, fun S' g2' => ?_⟩
      have hne : cs ≠ [] := fun e => by
        rw [e] at hl
        rcases Nat.mul_eq_zero.1 (show n * s = 0 from hl.symm) with q | q
        · exact hz q
        · exact hsz q
      rw [OB_ne hne]
      have := @Rep.own S' U L w (L j).1 ((L j).2 + 0) n _ s cs vs (F j) [] [] [] (by simpa using a2) hl a3 (by simpa using g1) hcl hne g2' .nil
      simpa using this
    | ref0 a1 a2 a3 =>
      cases a3
      obtain rfl : cs = [] := by simpa using hl
      exact ⟨rfl, fun S' _ => .own0 a2 .nil⟩
  obtain ⟨rfl, hmid⟩ := hmidAll
  let F' := upd F i (FA ++ OB (L j).1 (F j) cs ++ FC)
  have eF' : F i = FA ++ FC := by rw [eF]; simp
  have OI : Own (upd (upd h j none) i (some (true, A ++ [.sl true n s cs] ++ C))) L F' i = (L i).1 :: (FA ++ OB (L j).1 (F j) cs ++ FC) := by
    rw [own_ne (upd_same _ _ _) (hzi _)]; simp [F', upd_same]
  have OJ : Own (upd (upd h j none) i (some (true, A ++ [.sl true n s cs] ++ C))) L F' j = [] := by simp [Own, upd_other _ _ (Ne.symm hij), upd_same]
  have OO : ∀ x, x ≠ i → x ≠ j → Own (upd (upd h j none) i (some (true, A ++ [.sl true n s cs] ++ C))) L F' x = Own h L F x := fun x e1 e2 => by simp [Own, upd_other _ _ e1, upd_other _ _ e2, F']
  have mI : ∀ b, b ∈ (L i).1 :: (FA ++ OB (L j).1 (F j) cs ++ FC) ↔ b ∈ Own h L F i ∨ b ∈ Own h L F j := by
    intro b; rw [own_ne hi (hzi _), own_of hj, eF']; simp; grind
  have ndI : ((L i).1 :: (FA ++ OB (L j).1 (F j) cs ++ FC)).Nodup := by
    have n1 := m.nodup i; have n2 := m.nodup j; have d := m.disj i j hij
    rw [own_ne hi (hzi _), eF'] at n1 d
    rw [own_of hj] at n2 d
    have : ((L i).1 :: (FA ++ OB (L j).1 (F j) cs ++ FC)).Perm (((L i).1 :: (FA ++ FC)) ++ OB (L j).1 (F j) cs) := by
      simp only [List.cons_append, List.append_assoc]
      refine List.Perm.cons _ ?_
      refine List.Perm.append_left _ ?_
      exact List.perm_append_comm
    rw [this.nodup_iff]
    exact List.nodup_append.2 ⟨n1, n2, fun a ha b hb e => d a ha (e ▸ hb)⟩
  refine ⟨F', m.master (Grows.refl w) rfl rfl rfl (fun x b hb => .inl ?_) (fun x => ?_) (fun x y hxy b hb hc' => ?_) (fun b _ _ => rfl) (fun i hi => ⟨hi, rfl⟩) (fun mo x nd hx => ?_)⟩
  · by_cases e1 : x = i
    · subst e1; rw [OI] at hb
      rcases (mI b).1 hb with q | q
      · exact ⟨_, q⟩
      · exact ⟨_, q⟩
    · by_cases e2 : x = j
      · subst e2; rw [OJ] at hb; cases hb
      · rw [OO x e1 e2] at hb; exact ⟨_, hb⟩
  · by_cases e1 : x = i
    · subst e1; rw [OI]; exact ndI
    · by_cases e2 : x = j
      · subst e2; rw [OJ]; simp
      · rw [OO x e1 e2]; exact m.nodup x
  · have key : ∀ y, y ≠ i → y ≠ j → ∀ b ∈ Own h L F y, b ∉ (L i).1 :: (FA ++ OB (L j).1 (F j) cs ++ FC) := fun y e1 e2 b hb hc' => by
      rcases (mI b).1 hc' with q | q
      · exact m.disj y i e1 b hb q
      · exact m.disj y j e2 b hb q
    by_cases e1 : x = i
    · subst e1; rw [OI] at hb
      by_cases e2 : y = j
      · subst e2; rw [OJ] at hc'; cases hc'
      · rw [OO y (Ne.symm hxy) e2] at hc'; exact key y (Ne.symm hxy) e2 b hc' hb
    · by_cases e2 : x = j
      · subst e2; rw [OJ] at hb; cases hb
      · rw [OO x e1 e2] at hb
        by_cases e3 : y = i
        · subst e3; rw [OI] at hc'; exact key x e1 e2 b hb hc'
        · by_cases e4 : y = j
          · subst e4; rw [OJ] at hc'; cases hc'
          · rw [OO y e3 e4] at hc'; exact m.disj x y hxy b hb hc'
  · by_cases e1 : x = i
    · subst e1
      rw [upd_same] at hx
      obtain rfl := Option.some.inj hx
      refine ⟨(m.node x _ hi).1, _, h1, ?_, fun _ => h3, fun e => by cases e⟩
      have rA' := mo.repF rA (fun _ _ => rfl)
      have rC' := mo.repF rC (fun _ _ => rfl)
      have g2' := mo.repF g2 (fun _ _ => rfl)
      simp only [F', upd_same]
      have := (rA'.append (hmid _ g2')).append rC'
      simpa [F'] using this
    · by_cases e2 : x = j
      · subst e2; rw [upd_other _ _ e1, upd_same] at hx; cases hx
      · rw [upd_other _ _ e1, upd_other _ _ e2] at hx
        exact m.keep mo hx (by simp [F', upd_other _ _ e1]) (fun _ _ => rfl)

/-- A slice within a node becomes a node of its own, to which the cell leads. -/
theorem Mem.drawOut (m : Mem k h w L F U) {i nid n s : Nat} {A C cs : List Cell} (hi : h i = some (true, A ++ [.sl true n s cs] ++ C)) (hn : h nid = none) (hU : ¬ U nid) :
    ∃ L' F', Mem k (upd (upd h i (some (true, A ++ [.ref nid 0 n s] ++ C))) nid (some (true, cs))) w L' F' (fun x => U x ∨ x = nid) ∧
      Mono k h w L F U (upd (upd h i (some (true, A ++ [.ref nid 0 n s] ++ C))) nid (some (true, cs))) w L' F' (fun x => U x ∨ x = nid) := by
  have hne : i ≠ nid := fun e => by rw [e, hn] at hi; cases hi
  have hzi : ∀ c : Cell, A ++ [c] ++ C ≠ [] := fun c => by simp
  obtain ⟨hUi, us, h1, h2, h3, _⟩ := m.node i _ hi
  have h3 := h3 (hzi _)
  simp only at h2
  obtain ⟨usAB, usC, FAB, FC, rfl, eF, rAB, rC⟩ := h2.split
  obtain ⟨usA, usB, FA, FB, rfl, rfl, rA, rB⟩ := rAB.split
  have hrB : ∃ b o ws F1, FB = OB b F1 cs ∧ (cs = [] → F1 = []) ∧ w.rangeAt b o ws ∧ Rep (SS k h L F w) U L w ws cs F1 ∧ (cs ≠ [] → Wr w b (o + ws.length)) ∧
      ∀ (S' U' : Nat → Prop) (L' : Nat → Nat × Nat), U' nid → L' nid = (b, o) → Rep S' U' L' w usB [.ref nid 0 n s] [] := by
    cases rB with
    | @own b o _ cap _ _ ws F1 _ _ _ a1 a2 a3 a4 a5 hz a6 a7 =>
      cases a7
      refine ⟨b, o, ws, F1, by rw [OB_ne hz]; simp, fun e => absurd e hz, a4, a6, fun _ => a1.mono ?_, fun S' U' L' hu e => ?_⟩
      · have := a6.length; have := Nat.mul_le_mul_right s a3; omega
      · have hn0 : n ≠ 0 := fun e => hz (by subst e; simpa using a2)
        have := @Rep.ref S' U' L' w nid 0 n s cap [] [] [] hu (by rw [e]; simpa using a1) a3 hn0 .nil
        rw [e] at this; simpa using this
    | own0 a1 a2 =>
      cases a2
      exact ⟨0, 0, [], [], rfl, fun _ => rfl, rangeAt_nil _ _ _, .nil, fun q => absurd rfl q, fun S' U' L' hu _ => .ref0 hu a1 .nil⟩
  obtain ⟨b0, o0, ws, F1, rfl, hF1, hws, hrw, hW, hmid⟩ := hrB
  let L' := upd L nid (b0, o0)
  let F' := upd (upd F i (FA ++ FC)) nid F1
  let h' := upd (upd h i (some (true, A ++ [.ref nid 0 n s] ++ C))) nid (some (true, cs))
  have OI : Own h' L' F' i = (L i).1 :: (FA ++ FC) := by
    rw [own_ne (show h' i = some (true, A ++ [.ref nid 0 n s] ++ C) by simp [h', upd_other _ _ hne, upd_same]) (hzi _)]
    simp [L', F', upd_other _ _ hne, upd_same]
  have ON : Own h' L' F' nid = OB b0 F1 cs := by simp [Own, h', L', F', upd_same]
  have OO : ∀ x, x ≠ i → x ≠ nid → Own h' L' F' x = Own h L F x := fun x e1 e2 => by simp [Own, h', L', F', upd_other _ _ e1, upd_other _ _ e2]
  have nd := m.nodup i
  rw [own_ne hi (hzi _), eF] at nd
  have P1 : ((L i).1 :: (FA ++ OB b0 F1 cs ++ FC)).Perm (((L i).1 :: (FA ++ FC)) ++ OB b0 F1 cs) := by
    simp only [List.cons_append, List.append_assoc]
    refine List.Perm.cons _ (List.Perm.append_left _ ?_)
    exact List.perm_append_comm
  have nd' := (P1.nodup_iff).1 nd
  obtain ⟨n1, n2, n3⟩ := List.nodup_append.1 nd'
  have mem : ∀ b, b ∈ (L i).1 :: (FA ++ FC) ∨ b ∈ OB b0 F1 cs → b ∈ Own h L F i := fun b hb => by
    rw [own_ne hi (hzi _), eF, P1.mem_iff]; exact List.mem_append.2 hb
  refine ⟨L', F', m.master (Grows.refl w) rfl rfl rfl (fun x b hb => .inl ?_) (fun x => ?_) (fun x y hxy b hb hc' => ?_) (fun b _ _ => rfl)
    (fun i hi => ⟨.inl hi, upd_other _ _ (fun e => hU (e ▸ hi))⟩) (fun mo x nd hx => ?_)⟩
  · by_cases e1 : x = nid
    · subst e1; rw [ON] at hb; exact ⟨i, mem b (.inr hb)⟩
    · by_cases e2 : x = i
      · subst e2; rw [OI] at hb; exact ⟨_, mem b (.inl hb)⟩
      · rw [OO x e2 e1] at hb; exact ⟨_, hb⟩
  · by_cases e1 : x = nid
    · subst e1; rw [ON]; exact n2
    · by_cases e2 : x = i
      · subst e2; rw [OI]; exact n1
      · rw [OO x e2 e1]; exact m.nodup x
  · by_cases e1 : x = nid
    · subst e1; rw [ON] at hb
      by_cases e2 : y = i
      · subst e2; rw [OI] at hc'; exact n3 b hc' b hb rfl
      · rw [OO y e2 (Ne.symm hxy)] at hc'; exact m.disj i y (Ne.symm e2) b (mem b (.inr hb)) hc'
    · by_cases e2 : x = i
      · subst e2; rw [OI] at hb
        by_cases e3 : y = nid
        · subst e3; rw [ON] at hc'; exact n3 b hb b hc' rfl
        · rw [OO y (Ne.symm hxy) e3] at hc'; exact m.disj x y hxy b (mem b (.inl hb)) hc'
      · rw [OO x e2 e1] at hb
        by_cases e3 : y = nid
        · subst e3; rw [ON] at hc'; exact m.disj x i e2 b hb (mem b (.inr hc'))
        · by_cases e4 : y = i
          · subst e4; rw [OI] at hc'; exact m.disj x y hxy b hb (mem b (.inl hc'))
          · rw [OO y e4 e3] at hc'; exact m.disj x y hxy b hb hc'
  · by_cases e1 : x = nid
    · subst e1
      simp only [upd_same] at hx
      obtain rfl := Option.some.inj hx
      refine ⟨.inr rfl, ws, by simpa [L', upd_same] using hws, ?_, ?_, fun e => by cases e⟩
      · simp only [F', upd_same]; exact mo.repF hrw (fun _ _ => rfl)
      · simp only [L', upd_same]; exact hW
    · by_cases e2 : x = i
      · subst e2
        rw [upd_other _ _ e1, upd_same] at hx
        obtain rfl := Option.some.inj hx
        have eL : L' x = L x := upd_other _ _ e1
        refine ⟨.inl hUi, _, by rw [eL]; exact h1, ?_, fun _ => by rw [eL]; exact h3, fun e => by cases e⟩
        have rA' := mo.repF rA (fun _ _ => rfl)
        have rC' := mo.repF rC (fun _ _ => rfl)
        have eN : L' nid = (b0, o0) := upd_same _ _ _
        have := (rA'.append (hmid (SS k h' L' F' w) (fun x => U x ∨ x = nid) L' (.inr rfl) eN)).append rC'
        have e3 : F' x = FA ++ FC := by simp [F', upd_other _ _ e1, upd_same]
        rw [e3]
        simpa using this
      · rw [upd_other _ _ e1, upd_other _ _ e2] at hx
        exact m.keep mo hx (by simp [F', upd_other _ _ e1, upd_other _ _ e2]) (fun _ _ => rfl)

/-- Nobody writes node `i` any more. -/
theorem Mem.freeze (m : Mem k h w L F U) {i : Nat} {cs : List Cell} (hi : h i = some (true, cs)) :
    ∃ F', Mem k (upd h i (some (false, roifyL cs))) w L F' U ∧ Mono k h w L F U (upd h i (some (false, roifyL cs))) w L F' U := by
  obtain ⟨hUi, us, h1, h2, h3, _⟩ := m.node i _ hi
  let F' := upd F i []
  have OI : Own (upd h i (some (false, roifyL cs))) L F' i = [] := by simp [Own, upd_same]
  have OO : ∀ x, x ≠ i → Own (upd h i (some (false, roifyL cs))) L F' x = Own h L F x := fun x e => by simp [Own, upd_other _ _ e, F']
  have hO : ∀ x, ∀ b ∈ Own (upd h i (some (false, roifyL cs))) L F' x, x ≠ i ∧ b ∈ Own h L F x := fun x b hb => by
    by_cases e : x = i
    · subst e; rw [OI] at hb; cases hb
    · rw [OO x e] at hb; exact ⟨e, hb⟩
  refine ⟨F', m.master (Grows.refl w) rfl rfl rfl (fun x b hb => .inl ⟨x, (hO x b hb).2⟩) (fun x => ?_) (fun x y hxy b hb hc => m.disj x y hxy b (hO x b hb).2 (hO y b hc).2) (fun b _ _ => rfl)
    (fun i hi => ⟨hi, rfl⟩) (fun mo x nd hx => ?_)⟩
  · by_cases e : x = i
    · subst e; rw [OI]; simp
    · rw [OO x e]; exact m.nodup x
  · by_cases e : x = i
    · subst e
      rw [upd_same] at hx
      obtain rfl := Option.some.inj hx
      have hfree : ∀ b ∈ Own h L F x, SS k (upd h x (some (false, roifyL cs))) L F' w b := fun b hb =>
        ⟨(m.inB x b hb).elim (fun q => .inr (.inr q)) (fun q => .inr (.inl q)), Own.lt m hb, fun y hc => m.disj y x (hO y b hc).1 b (hO y b hc).2 hb⟩
      have hnn : roifyL cs ≠ [] → cs ≠ [] := roifyL_eq_nil
      refine ⟨hUi, us, h1, ?_, fun q => h3 (hnn q), fun _ => ⟨by simp [F', upd_same], fun q => hfree _ (by rw [own_ne hi (hnn q)]; simp)⟩⟩
      simp only [F', upd_same]
      by_cases hz : cs = []
      · subst hz; obtain ⟨rfl, _⟩ := rep_nil h2; exact .nil
      · exact h2.roify (fun b hb => (mo.1 b hb).1) (fun b hb => hfree b (by rw [own_ne hi hz]; simp [hb]))
    · rw [upd_other _ _ e] at hx
      exact m.keep mo hx (by simp [F', upd_other _ _ e]) (fun _ _ => rfl)

end
end

section
open Go Go.RowKit

def ofV : Value → Cell
  | .slice none 0 0 => .nil
  | v => .prim v

def evT (t : List TV) : Operand → TV
  | .tmp i => t.getD i .undef
  | .const v => if v.oneCell' then .v false [ofV v] else .undef
  | _ => .undef

def Cell.own? : Cell → Bool
  | .sl true .. => true
  | .op _ => true
  | _ => false

def szT (P : Program) (t : TypeId) : Option Nat := (P.info? t).map (·.size)

def rowT (P : Program) (t : TypeId) : Option Bool := (P.underlying t).map (·.isRow)

def zeroT (P : Program) (t : TypeId) : Option (List Cell) :=
  match P.info? t with
  | some i => match i.zero with
    | some z => if z.cells.size = i.size ∧ z.cells.toList.all (·.oneCell') = true then some (z.cells.toList.map ofV) else none
    | none => none
  | none => none

def bitT (op : BinOp) (k : IntKind) (x y : Int) : Option Value :=
  match op with
  | .and => some (.int k (k.wrap (BitVec.ofInt k.bits x &&& BitVec.ofInt k.bits y).toNat))
  | .or => some (.int k (k.wrap (BitVec.ofInt k.bits x ||| BitVec.ofInt k.bits y).toNat))
  | .xor => some (.int k (k.wrap (BitVec.ofInt k.bits x ^^^ BitVec.ofInt k.bits y).toNat))
  | _ => none

def intT (op : BinOp) (k : IntKind) (a b : Int) : Option Value :=
  match op with
  | .add => some (.int k (k.wrap (a + b)))
  | .sub => some (.int k (k.wrap (a - b)))
  | .mul => some (.int k (k.wrap (a * b)))
  | .quo => if b = 0 then none else some (.int k (k.wrap (a.tdiv b)))
  | .rem => if b = 0 then none else some (.int k (a.tmod b))
  | .eql => some (.bool (a == b))
  | .neq => some (.bool (a != b))
  | .lss => some (.bool (a < b))
  | .leq => some (.bool (a ≤ b))
  | .gtr => some (.bool (a > b))
  | .geq => some (.bool (a ≥ b))
  | op => bitT op k a b

def strT (op : BinOp) (x y : ByteArray) : Option Value :=
  match op with
  | .add => if x.size + y.size ≤ 9223372036854775807 then some (.string (x ++ y)) else none
  | .eql => some (.bool (x.toList == y.toList))
  | .neq => some (.bool !(x.toList == y.toList))
  | .lss => some (.bool (Op.bytesLess x.toList y.toList))
  | .leq => some (.bool (Op.bytesLess x.toList y.toList || x.toList == y.toList))
  | .gtr => some (.bool !(Op.bytesLess x.toList y.toList || x.toList == y.toList))
  | .geq => some (.bool !(Op.bytesLess x.toList y.toList))
  | _ => none

def binT (P : Program) (op : BinOp) (t : TypeId) (x y : Value) : Option Value :=
  match op, x, y with
  | .shl, .int k a, .int _ b => if b < 0 then none else some (.int k (k.wrap (a * 2 ^ (min b.toNat k.bits))))
  | .shr, .int k a, .int _ b => if b < 0 then none else some (.int k (a.fdiv (2 ^ (min b.toNat k.bits))))
  | op, .int k a, .int k' b => if k = k' then intT op k a b else none
  | op, .string a, .string b => strT op a b
  | .eql, .bool a, .bool b => match P.underlying t with | some .bool => some (.bool (a == b)) | _ => none
  | .neq, .bool a, .bool b => match P.underlying t with | some .bool => some (.bool !(a == b)) | _ => none
  | _, _, _ => none

/-- Equality of structs whose fields are all numbers, bools or texts. -/
def eqCell (P : Program) (t : TypeId) : Option Cell → Option Cell → Option Bool
  | some (.prim (.int k a)), some (.prim (.int k' b)) => match P.underlying t with | some (.int _) => if k = k' then some (a == b) else none | _ => none
  | some (.prim (.bool a)), some (.prim (.bool b)) => match P.underlying t with | some .bool => some (a == b) | _ => none
  | some (.prim (.string a)), some (.prim (.string b)) => match P.underlying t with | some .string => some (a == b) | _ => none
  | _, _ => none

def eqFields (P : Program) (xs ys : List Cell) : List Field → Option Bool
  | [] => some true
  | f :: fs => if f.name = "_" then none else
    match eqCell P f.type xs[f.offset]? ys[f.offset]? with
    | some true => eqFields P xs ys fs
    | some false => some false
    | none => none

def eqStruct (P : Program) (t : TypeId) (xs ys : List Cell) : Option Bool :=
  if P.stoodInHeld t = true ∨ P.eqGuardType P.depth t = true then none else
  match P.underlying t with
  | some (.struct fs) => eqFields P xs ys fs.toList
  | _ => none

def unT (op : UnOp) (x : Value) : Option Value :=
  match op, x with
  | .neg, .int k n => some (.int k (k.wrap (0 - n)))
  | .xor, .int k n => bitT .xor k (if k.signed then -1 else k.max) n
  | .not, .bool b => some (.bool !b)
  | _, _ => none

def byteC (s : List UInt8) : List Cell := s.map fun b => .prim (.int .u8 b.toNat)

def strOf : List Cell → Option (List UInt8)
  | [] => some []
  | .prim (.int .u8 n) :: l => (strOf l).map (UInt8.ofNat n.toNat :: ·)
  | _ => none

def putAt (cs : List Cell) (off : Nat) (l : List Cell) : List Cell := cs.take off ++ l ++ cs.drop (off + l.length)

def fillT (place : Nat → Option (Nat × Nat)) : List Cell → List (Nat × TV) → Option (List Cell)
  | cs, [] => some cs
  | cs, (i, .v _ l) :: r => match place i with
    | some (off, size) => if l.length = size ∧ off + size ≤ cs.length then fillT place (putAt cs off l) r else none
    | none => none
  | _, _ => none

def zerosT (z : List Cell) (n : Nat) : List Cell := (List.replicate n z).flatten

/-- Where field `f` of struct type `s` lies, and its type. -/
def fieldT (P : Program) (s : TypeId) (f : Nat) : Option Field :=
  match P.underlying s with
  | some (.struct fs) => fs[f]?
  | _ => none

/-- The element type of a slice type, its size and its bytes. -/
def elemT (P : Program) (t : TypeId) : Option TypeId :=
  match P.underlying t with
  | some (.slice e) => some e
  | _ => none

def sliceT (x : Cell) (s lo hi : Nat) : Option Cell :=
  if lo ≤ hi then
    match x with
    | .nil => if hi = 0 then some .nil else none
    | .sl false n s' l => if hi ≤ n ∧ s' = s then some (.sl false (hi - lo) s ((l.drop (lo * s)).take ((hi - lo) * s))) else none
    | .ref id off n s' => if hi ≤ n ∧ s' = s then (if lo = hi then some (.sl false 0 s []) else some (.ref id (off + lo * s) (hi - lo) s)) else none
    | _ => none
  else none

def boundT (d : Nat) : Option TV → Option Nat
  | none => some d
  | some (.v false [.prim (.int _ i)]) => if 0 ≤ i then some i.toNat else none
  | _ => none

/-- The elements that a slice (or a text, as bytes) has: how many, and their cells. -/
def srcT (h : Nat → Option Node) (s : Nat) : TV → Option (Nat × List Cell)
  | .v false [.nil] => some (0, [])
  | .v false [.sl false n s' l] => if s' = s then some (n, l) else none
  | .v false [.ref id off n s'] => match h id with
    | some (_, cs) => if s' = s ∧ off + n * s ≤ cs.length ∧ ((cs.drop off).take (n * s)).all (fun c => !c.own?) = true then some (n, (cs.drop off).take (n * s)) else none
    | none => none
  | .v false [.prim (.string b)] => if s = 1 then some (b.size, byteC b.data.toList) else none
  | _ => none

/-- May a value of this type be appended whole? -/
def srcTy (P : Program) (t : TypeId) : Bool := (elemT P t).isSome || (match P.underlying t with | some .string => true | _ => false)

/-- Where the fields of a struct lie, and how many cells they have. -/
def placeT (P : Program) (fs : Array Field) (i : Nat) : Option (Nat × Nat) :=
  match fs[i]? with
  | some f => (szT P f.type).map fun s => (f.offset, s)
  | none => none

def appendT (P : Program) (h : Nat → Option Node) (nid : Nat) (ts tx : TypeId) (s x : TV) : Option (TV × List (Nat × Option Node)) :=
  match elemT P ts with
  | none => none
  | some e => match P.info? e, zeroT P e with
    | some i, some _ =>
      if srcTy P tx = true ∧ i.size ≠ 0 then
      match srcT h i.size x with
      | some (m, N) =>
        match s with
        | .v false [.nil] =>
            if m ≤ 140737488355328 ∧ m * i.bytes ≤ 140737488355328 then some (.v false [.ref nid 0 m i.size], [(nid, some (true, N))]) else none
        | .v false [.ref id off n s'] =>
          if s' = i.size then
            match h id with
            | some (true, cs) =>
              if off + n * s' ≤ cs.length ∧ n + m ≤ 140737488355328 ∧ (n + m) * i.bytes ≤ 140737488355328 then
                some (.v false [.ref nid 0 (n + m) s'], [(id, none), (nid, some (true, (cs.drop off).take (n * s') ++ N))]) else none
            | _ => none
          else none
        | _ => none
      | none => none
      else none
    | _, _ => none

def lenT (P : Program) (t : TypeId) : TV → Option Nat
  | .v false [.prim (.string s)] => match P.underlying t with | some .string => some s.size | _ => none
  | .v false [.nil] => (elemT P t).map fun _ => 0
  | .v false [.sl _ n _ _] => (elemT P t).map fun _ => n
  | .v false [.ref _ _ n _] => (elemT P t).map fun _ => n
  | _ => none

/-- How many elements a slice has. -/
def nOf : Cell → Option Nat
  | .nil => some 0
  | .sl _ n _ _ => some n
  | .ref _ _ n _ => some n
  | _ => none

def callT (P : Program) (h : Nat → Option Node) (nid : Nat) (b : Builtin) (tys : List TypeId) (args : List TV) : Option (TV × List (Nat × Option Node)) :=
  match b, tys, args with
  | .append, [ts, tx], [s, x] => appendT P h nid ts tx s x
  | .len, [t], [x] => (lenT P t x).map fun (n : Nat) => (TV.v false [.prim (.int .i64 (n : Int))], [])
  | .max, _, [.v false [.prim (.int k a)], .v false [.prim (.int _ b)]] => some (.v false [.prim (.int k (if b > a then b else a))], [])
  | .min, _, [.v false [.prim (.int k a)], .v false [.prim (.int _ b)]] => some (.v false [.prim (.int k (if b < a then b else a))], [])
  | _, _, _ => none

def eff (P : Program) (h : Nat → Option Node) (nid : Nat) (ev : Operand → TV) (op : Op) : Option (TV × List (Nat × Option Node)) :=
  match op with
  | .move x | .assign x => some (ev x, [])
  | .pick c a b => match ev c with
    | .v false [.prim (.bool t)] => some (if t then ev a else ev b, [])
    | _ => none
  | .alloc t => (zeroT P t).map fun z => (.v false [.ptr nid 0], [(nid, some (true, z))])
  | .box _ x => match ev x with
    | .v _ l => some (.v false [.ptr nid 0], [(nid, some (true, l))])
    | _ => none
  | .build t parts => match P.underlying t, zeroT P t with
    | some (.struct fs), some z => if fs.toList.all (fun f => (szT P f.type).isSome) = true then (fillT (placeT P fs) z (parts.toList.map fun p => (p.1, ev p.2))).map fun cs => (.v true cs, []) else none
    | _, _ => none
  | .buildSlice t n parts => match elemT P t with
    | some e => match zeroT P e with
      | some z => if n * z.length ≤ 16777216 ∧ z.length ≠ 0 then
          (fillT (fun i => some (i * z.length, z.length)) (zerosT z n) (parts.toList.map fun p => (p.1, ev p.2))).map fun cs => (.v false [.ref nid 0 n z.length], [(nid, some (true, cs))])
        else none
      | none => none
    | none => none
  | .load t a => match szT P t, rowT P t with
    | some s, some r => if r = true ∨ s = 1 then
        match ev a with
        | .v false [.ptr id off] => match h id with
          | some (_, cs) => if off + s ≤ cs.length ∧ ((cs.drop off).take s).all (fun c => !c.own?) = true then some (.v r ((cs.drop off).take s), []) else none
          | none => none
        | .v false [.rop l] => if s ≤ l.length then some (.v r (l.take s), []) else none
        | _ => none
      else none
    | _, _ => none
  | .store t a x => match ev a, ev x with
    | .v false [.ptr id off], .v _ l => match h id with
      | some (true, cs) => if szT P t = some l.length ∧ off + l.length ≤ cs.length then some (.undef, [(id, some (true, putAt cs off l))]) else none
      | _ => none
    | _, _ => none
  | .nilCheck x => match ev x with
    | .v false [.ptr id off] => some (.v false [.ptr id off], [])
    | .v false [.rop l] => some (.v false [.rop l], [])
    | _ => none
  | .binOp op t x y _ => match ev x, ev y with
    | .v false [.prim a], .v false [.prim b] => (binT P op t a b).map fun r => (.v false [.prim r], [])
    | .v true l, .v true l' => match op with
      | .eql => (eqStruct P t l l').map fun r => (.v false [.prim (.bool r)], [])
      | .neq => (eqStruct P t l l').map fun r => (.v false [.prim (.bool !r)], [])
      | _ => none
    | _, _ => none
  | .unOp op _ x => match ev x with
    | .v false [.prim a] => (unT op a).map fun r => (.v false [.prim r], [])
    | _ => none
  | .convert s d x => match P.underlying s, P.underlying d, ev x with
    | some _, some (.int k), .v false [.prim (.int _ n)] => some (.v false [.prim (.int k (k.wrap n))], [])
    | some .string, some .string, .v false [.prim (.string b)] => some (.v false [.prim (.string b)], [])
    | some .string, some (.slice e), .v false [.prim (.string b)] => match P.underlying e with
      | some (.int .u8) => some (.v false [.sl false b.size 1 (byteC b.data.toList)], [])
      | _ => none
    | some (.slice e), some .string, x => match P.underlying e, srcT h 1 x, x with
      | some (.int .u8), some (_, N), .v false [c] => (match c with | .prim _ => none | _ => (strOf N).map fun b => (.v false [.prim (.string ⟨b.toArray⟩)], []))
      | _, _, _ => none
    | _, _, _ => none
  | .makeSlice t l c => match ev l, ev c, elemT P t with
    | .v false [.prim (.int _ n)], .v false [.prim (.int _ n')], some e => match P.info? e, zeroT P e with
      | some i, some z => if n = n' ∧ 0 ≤ n ∧ n ≤ 140737488355328 ∧ n.toNat * i.bytes ≤ 140737488355328 ∧ z.length ≠ 0 then some (.v false [.ref nid 0 n.toNat z.length], [(nid, some (true, zerosT z n.toNat))]) else none
      | _, _ => none
    | _, _, _ => none
  | .slice t x lo hi none => match ev x with
    | .v false [.prim (.string b)] => match P.underlying t, boundT 0 (lo.map ev), boundT b.size (hi.map ev) with
      | some .string, some l, some h => if l ≤ h ∧ h ≤ b.size then some (.v false [.prim (.string (b.extract l h))], []) else none
      | _, _, _ => none
    | .v false [c] => match elemT P t with
      | some e => match szT P e, nOf c with
        | some s, some n => match boundT 0 (lo.map ev), boundT n (hi.map ev) with
          | some l, some h => (sliceT c s l h).map fun c => (.v false [c], [])
          | _, _ => none
        | _, _ => none
      | none => none
    | _ => none
  | .fieldAddr s x f => match fieldT P s f with
    | some fd => match szT P fd.type with
      | some (_ + 1) => match ev x with
        | .v false [.ptr id off] => some (.v false [.ptr id (off + fd.offset)], [])
        | .v false [.rop l] => some (.v false [.rop (l.drop fd.offset)], [])
        | _ => none
      | _ => none
    | none => none
  | .field s x f => match fieldT P s f with
    | some fd => match szT P fd.type, rowT P fd.type, ev x with
      | some n, some r, .v true l => if (r = true ∨ n = 1) ∧ fd.offset + n ≤ l.length then some (.v r ((l.drop fd.offset).take n), []) else none
      | _, _, _ => none
    | none => none
  | .indexAddr t x i => match elemT P t with
    | some e => match szT P e, ev i with
      | some s, .v false [.prim (.int _ j)] => match ev x with
        | .v false [.ref id off n s'] => if 0 ≤ j ∧ j < n ∧ s' = s then some (.v false [.ptr id (off + j.toNat * s)], []) else none
        | .v false [.sl false n s' l] => if 0 ≤ j ∧ j < n ∧ s' = s then some (.v false [.rop ((l.drop (j.toNat * s)).take s)], []) else none
        | _ => none
      | _, _ => none
    | none => none
  | .index t x i => match P.underlying t, ev x, ev i with
    | some .string, .v false [.prim (.string b)], .v false [.prim (.int _ j)] => match b.data.toList[j.toNat]? with
      | some c => if 0 ≤ j then some (.v false [.prim (.int .u8 c.toNat)], []) else none
      | none => none
    | _, _, _ => none
  | .extract x i => match ev x with
    | .tup l => match l[i]? with
      | some (b, cs) => some (.v b cs, [])
      | none => none
    | _ => none
  | .call c => match c.callee with
    | .builtin b => callT P h nid b c.argTypes.toList (c.args.toList.map ev)
    | _ => none
  | _ => none
end

section
open Go Go.RowKit

def ups (h : Nat → Option Node) (l : List (Nat × Option Node)) : Nat → Option Node := l.foldl (fun h p => upd h p.1 p.2) h

/-- The machine's step `r`, beside what T says: the value `tv`, the nodes' changes `l`. -/
def Snd (k : Base) (h : Nat → Option Node) (w : World) (L : Nat → Nat × Nat) (F : Nat → List Nat) (U : Nat → Prop) (_nid : Nat) (r : Result Next) (tv : TV) (l : List (Nat × Option Node)) : Prop :=
  ∃ nx w' L' F' U', r = .ok nx w' ∧ ((∃ v, nx = .value v ∧ RTV (SS k (ups h l) L' F' w') U' L' w' v tv) ∨ (nx = .skip ∧ tv = .undef)) ∧
    Mem k (ups h l) w' L' F' U' ∧ Mono k h w L F U (ups h l) w' L' F' U' ∧ ∀ i, U' i → U i ∨ i ∈ l.map (·.1)

section

variable {k : Base} {h : Nat → Option Node} {w : World} {L : Nat → Nat × Nat} {F : Nat → List Nat} {U : Nat → Prop} {nid : Nat} {P : Program}

theorem snd_same (m : Mem k h w L F U) {r : Result Next} {v : Value} {tv : TV} (hr : r = .ok (.value v) w) (hv : RTV (SS k h L F w) U L w v tv) : Snd k h w L F U nid r tv [] :=
  ⟨_, _, L, F, U, hr, .inl ⟨v, rfl, hv⟩, m, Mono.refl _ _ _ _ _ _, fun _ hi => .inl hi⟩

theorem rep_prim {S : Nat → Prop} {U L w} {x v : Value} (r : Rep S U L w [x] [.prim v] []) : x = v := by cases r; rfl

theorem rep_nilc {S : Nat → Prop} {U L w} {x : Value} (r : Rep S U L w [x] [.nil] []) : x = .slice none 0 0 := by cases r; rfl

theorem rtv_prim {S : Nat → Prop} {U L w} {v : Value} (h : v.oneCell' = true) : RTV S U L w v (.v false [.prim v]) := Rep.prim h .nil

theorem rtv_v {S : Nat → Prop} {U L w x b l} (r : RTV S U L w x (.v b l)) : RV S U L w x (b, l) := r

theorem rep_ofV {S : Nat → Prop} {U L w} : ∀ {vs : List Value}, (∀ v ∈ vs, v.oneCell' = true) → Rep S U L w vs (vs.map ofV) []
  | [], _ => .nil
  | v :: vs, hv => by
    have h1 := hv v (by simp)
    have h2 := rep_ofV (S := S) (U := U) (L := L) (w := w) (vs := vs) (fun v hm => hv v (by simp [hm]))
    simp only [List.map_cons]
    unfold ofV
    split
    · exact .nils h2
    · exact .prim h1 h2

theorem evT_const {S : Nat → Prop} {U L w t v} : RTV S U L w v (evT t (.const v)) := by
  simp only [evT]
  split
  · rename_i h; exact rep_ofV (vs := [v]) (by simpa using h)
  · trivial

theorem rep_take {S U L w} : ∀ {cs : List Cell} {vs : List Value} (n : Nat), Rep S U L w vs cs [] → Rep S U L w (vs.take n) (cs.take n) []
  | cs, vs, n, r => by
    obtain ⟨v1, v2, F1, F2, e1, e2, r1, r2⟩ := Rep.split (cs1 := cs.take n) (cs2 := cs.drop n) (by rw [List.take_append_drop]; exact r)
    have : F1 = [] := (List.append_eq_nil_iff.1 e2.symm).1
    subst this
    have hl := r1.length
    have : vs.take n = v1 := by
      rw [e1]
      by_cases hn : n ≤ cs.length
      · rw [List.take_append_of_le_length (by simp at hl; omega), List.take_of_length_le (by simp at hl; omega)]
      · have : v2 = [] := by
          have h2 := r2.length
          rw [List.drop_of_length_le (by omega)] at h2
          simpa using h2
        subst this; simp only [List.append_nil]; exact List.take_of_length_le (by simp at hl; omega)
    rw [this]; exact r1

theorem rep_drop {S U L w} {cs : List Cell} {vs : List Value} (n : Nat) (r : Rep S U L w vs cs []) : Rep S U L w (vs.drop n) (cs.drop n) [] := by
  obtain ⟨v1, v2, F1, F2, e1, e2, r1, r2⟩ := Rep.split (cs1 := cs.take n) (cs2 := cs.drop n) (by rw [List.take_append_drop]; exact r)
  have : F2 = [] := (List.append_eq_nil_iff.1 e2.symm).2
  subst this
  have hl := r1.length
  have : vs.drop n = v2 := by
    rw [e1]
    by_cases hn : n ≤ cs.length
    · rw [List.drop_append_of_le_length (by simp at hl; omega), List.drop_of_length_le (by simp at hl; omega)]; rfl
    · have : v2 = [] := by
        have h2 := r2.length
        rw [List.drop_of_length_le (by omega)] at h2
        simpa using h2
      subst this; simp only [List.append_nil]; exact List.drop_of_length_le (by simp at hl; omega)
  rw [this]; exact r2

/-- Out of a row that owns things: a stretch of it that owns nothing. -/
theorem rep_mid {S U L w} {cs : List Cell} {vs : List Value} {G : List Nat} (off n : Nat) (r : Rep S U L w vs cs G) (hc : ((cs.drop off).take n).all (fun c => !c.own?) = true) :
    Rep S U L w ((vs.drop off).take n) ((cs.drop off).take n) [] := by
  obtain ⟨v1, v2, F1, F2, e1, e2, r1, r2⟩ := Rep.split (cs1 := cs.take off) (cs2 := cs.drop off) (by rw [List.take_append_drop]; exact r)
  obtain ⟨v3, v4, F3, F4, e3, e4, r3, r4⟩ := Rep.split (cs1 := (cs.drop off).take n) (cs2 := (cs.drop off).drop n) (by rw [List.take_append_drop]; exact r2)
  have h1 := r1.length; have h2 := r2.length; have h3 := r3.length; have h4 := r4.length
  simp at h1 h2 h3 h4
  have hv2 : vs.drop off = v2 := by
    rw [e1]
    by_cases hn : off ≤ cs.length
    · rw [List.drop_append_of_le_length (by omega), List.drop_of_length_le (by omega)]; rfl
    · have : v2 = [] := List.eq_nil_of_length_eq_zero (by omega)
      subst this; simp only [List.append_nil]; exact List.drop_of_length_le (by omega)
  have hv3 : v2.take n = v3 := by
    rw [e3]
    by_cases hn : n ≤ cs.length - off
    · rw [List.take_append_of_le_length (by omega), List.take_of_length_le (by omega)]
    · have : v4 = [] := List.eq_nil_of_length_eq_zero (by omega)
      subst this; simp only [List.append_nil]; exact List.take_of_length_le (by omega)
  rw [hv2, hv3]
  have hF : F3 = [] := by
    clear e1 e2 e3 e4 hv2 hv3 r1 r2 r4 h1 h2 h3 h4
    generalize (cs.drop off).take n = l at hc r3
    induction r3 with
    | nil => rfl
    | prim _ _ ih => exact ih (by simp only [List.all_cons, Bool.and_eq_true] at hc; exact hc.2)
    | nils _ ih => exact ih (by simp only [List.all_cons, Bool.and_eq_true] at hc; exact hc.2)
    | ro _ _ _ _ _ _ _ _ ih => exact ih (by simp only [List.all_cons, Bool.and_eq_true] at hc; exact hc.2)
    | own _ _ _ _ _ _ _ _ _ _ => simp [Cell.own?] at hc
    | ref _ _ _ _ _ ih => exact ih (by simp only [List.all_cons, Bool.and_eq_true] at hc; exact hc.2)
    | ro0 _ _ ih => exact ih (by simp only [List.all_cons, Bool.and_eq_true] at hc; exact hc.2)
    | own0 _ _ ih => exact ih (by simp only [List.all_cons, Bool.and_eq_true] at hc; exact hc.2)
    | ref0 _ _ _ ih => exact ih (by simp only [List.all_cons, Bool.and_eq_true] at hc; exact hc.2)
    | ptr _ _ ih => exact ih (by simp only [List.all_cons, Bool.and_eq_true] at hc; exact hc.2)
    | rop _ _ _ _ _ _ ih => exact ih (by simp only [List.all_cons, Bool.and_eq_true] at hc; exact hc.2)
    | ownp _ _ _ _ _ _ _ _ => simp [Cell.own?] at hc
    | dead _ _ ih => exact ih (by simp only [List.all_cons, Bool.and_eq_true] at hc; exact hc.2)
  rw [hF] at r3; exact r3

theorem rangeAt_drop {w : World} {b o : Nat} {us : List Value} (r : w.rangeAt b o us) (n : Nat) : w.rangeAt b (o + n) (us.drop n) := by
  intro j v hv
  rw [List.getElem?_drop] at hv
  have := r (n + j) v hv
  rwa [← Nat.add_assoc] at this

theorem rangeAt_take {w : World} {b o : Nat} {us : List Value} (r : w.rangeAt b o us) (n : Nat) : w.rangeAt b o (us.take n) := by
  intro j v hv
  rw [List.getElem?_take] at hv
  split at hv
  · exact r j v hv
  · cases hv

/-! ### Loads -/

theorem run_load_t {t : TypeId} {b o : Nat} {us : List Value} {s : Nat} {r : Bool} (hs : szT P t = some s) (hrw : rowT P t = some r) (hrs : r = true ∨ s = 1) (hus : us.length = s) (hc : w.rangeAt b o us) :
    ∃ x, (Instr.loadAt t (.pointer (some ⟨b, o, none⟩))).run P w = .ok x w ∧ (r = true → x = .agg us.toArray) ∧ (r = false → us = [x]) := by
  unfold szT at hs
  unfold rowT at hrw
  cases hu : P.underlying t with
  | none => simp [hu] at hrw
  | some d =>
    simp [hu] at hrw
    cases r with
    | true => exact ⟨_, run_loadAt_mid w b o t us d hc hu hrw (by rw [hs, hus]), fun _ => rfl, fun e => by cases e⟩
    | false =>
      have h1 : s = 1 := hrs.resolve_left (by simp)
      subst h1
      match us, hus with
      | [x], _ =>
        have hx := hc 0 x rfl
        refine ⟨x, ?_, fun e => (by cases e), fun _ => rfl⟩
        have hagg : (isAgg t).run P w = .ok false w := by
          unfold isAgg
          rw [Sem.run_bind, run_underlying hu w]
          cases d <;> simp_all
        simp only [Nat.add_zero] at hx
        simp [Instr.loadAt, Instr.sureAddr, loadVar, Sem.run_bind, hagg, hx]

theorem rv_load {S U L w} {us : List Value} {cs : List Cell} {r : Bool} {x : Value} (hr : Rep S U L w us cs []) (h1 : r = true → x = .agg us.toArray) (h2 : r = false → us = [x]) : RTV S U L w x (.v r cs) := by
  cases r with
  | true => exact ⟨us.toArray, h1 rfl, by simpa using hr⟩
  | false => have := h2 rfl; subst this; exact hr

theorem snd_load_ptr (m : Mem k h w L F U) {t : TypeId} {x : Value} {id off s : Nat} {r o : Bool} {cs : List Cell} (hx : RTV (SS k h L F w) U L w x (.v false [.ptr id off]))
    (hs : szT P t = some s) (hrw : rowT P t = some r) (hrs : r = true ∨ s = 1) (hid : h id = some (o, cs)) (hc : off + s ≤ cs.length ∧ ((cs.drop off).take s).all (fun c => !c.own?) = true) :
    Snd k h w L F U nid ((do pure (Next.value (← Instr.loadAt t x)) : Sem Next).run P w) (.v r ((cs.drop off).take s)) [] := by
  obtain ⟨_, us, h1, h2, h3, _⟩ := m.node id _ hid
  simp only at h2
  have hl := h2.length
  cases hx with
  | ptr hU hn =>
    cases hn
    obtain ⟨y, hy, e1, e2⟩ := run_load_t (P := P) (us := (us.drop off).take s) hs hrw hrs (by simp; omega) (rangeAt_take (rangeAt_drop h1 off) s)
    exact snd_same m (v := y) (by simp [hy]) (rv_load (rep_mid off s h2 hc.2) e1 e2)

theorem snd_load_rop (m : Mem k h w L F U) {t : TypeId} {x : Value} {s : Nat} {r : Bool} {l : List Cell} (hx : RTV (SS k h L F w) U L w x (.v false [.rop l]))
    (hs : szT P t = some s) (hrw : rowT P t = some r) (hrs : r = true ∨ s = 1) (hc : s ≤ l.length) :
    Snd k h w L F U nid ((do pure (Next.value (← Instr.loadAt t x)) : Sem Next).run P w) (.v r (l.take s)) [] := by
  cases hx with
  | @rop b o _ us _ _ _ h1 h2 _ h3 hn =>
    cases hn
    have hl := h3.length
    obtain ⟨y, hy, e1, e2⟩ := run_load_t (P := P) (us := us.take s) hs hrw hrs (by simp; omega) (rangeAt_take h2 s)
    exact snd_same m (v := y) (by simp [hy]) (rv_load (rep_take s h3) e1 e2)

/-! ### Addresses -/

theorem closedL_drop : ∀ (l : List Cell) (n : Nat), closedL l = true → closedL (l.drop n) = true
  | [], n, _ => by simp [closedL]
  | c :: l, 0, h => h
  | c :: l, n + 1, h => by simp [closedL] at h; exact closedL_drop l n h.2

theorem closedL_take : ∀ (l : List Cell) (n : Nat), closedL l = true → closedL (l.take n) = true
  | [], n, _ => by simp [closedL]
  | c :: l, 0, h => by simp [closedL]
  | c :: l, n + 1, h => by simp [closedL] at h; simp [closedL, h.1, closedL_take l n h.2]

theorem closedL_append : ∀ (a b : List Cell), closedL (a ++ b) = (closedL a && closedL b)
  | [], b => by simp [closedL]
  | c :: a, b => by simp [closedL, closedL_append a b, Bool.and_assoc]

theorem elemT_some {t e : TypeId} (hee : elemT P t = some e) : P.underlying t = some (.slice e) := by
  unfold elemT at hee; split at hee
  · rename_i hu; obtain rfl := Option.some.inj hee; exact hu
  · cases hee

theorem szT_some {e : TypeId} {s : Nat} (hs : szT P e = some s) : ∃ i, P.info? e = some i ∧ i.size = s := by unfold szT at hs; simpa using hs

theorem fieldT_some {st : TypeId} {f : Nat} {fd : Field} (hf : fieldT P st f = some fd) : ∃ fs, P.underlying st = some (.struct fs) ∧ fs[f]? = some fd := by
  unfold fieldT at hf; split at hf
  · rename_i fs hu; exact ⟨fs, hu, hf⟩
  · cases hf

theorem snd_index_ref (m : Mem k h w L F U) {t e : TypeId} {s : Nat} {x : Value} {kk : IntKind} {j : Int} {id off n : Nat} (hx : RTV (SS k h L F w) U L w x (.v false [.ref id off n s])) (hee : elemT P t = some e) (hs : szT P e = some s)
    (h0 : 0 ≤ j) (h1 : j < n) : Snd k h w L F U nid ((do pure (Next.value (← Instr.indexAt t x (.int kk j))) : Sem Next).run P w) (.v false [.ptr id (off + j.toNat * s)]) [] := by
  have hu := elemT_some hee
  obtain ⟨i, hi, rfl⟩ := szT_some hs
  cases hx with
  | ref0 _ _ _ => omega
  | ref hU hW hn hz hnil =>
    cases hnil
    refine snd_same m (v := .pointer (some ⟨(L id).1, (L id).2 + (off + j.toNat * i.size), none⟩)) ?_ (.ptr hU .nil)
    simp [Instr.indexAt, asIntOf, run_underlying hu, sizeOf, typeInfo, hi, h0, h1, Addr.add_mid, Nat.add_assoc]

theorem snd_index_ro (m : Mem k h w L F U) {t e : TypeId} {s : Nat} {x : Value} {kk : IntKind} {j : Int} {n : Nat} {l : List Cell} (hx : RTV (SS k h L F w) U L w x (.v false [.sl false n s l])) (hee : elemT P t = some e) (hs : szT P e = some s)
    (h0 : 0 ≤ j) (h1 : j < n) : Snd k h w L F U nid ((do pure (Next.value (← Instr.indexAt t x (.int kk j))) : Sem Next).run P w) (.v false [.rop ((l.drop (j.toNat * s)).take s)]) [] := by
  have hu := elemT_some hee
  obtain ⟨i, hi, rfl⟩ := szT_some hs
  cases hx with
  | ro0 _ _ => omega
  | @ro b o _ cap _ _ us _ _ _ h2 h3 h4 h5 hcl h6 hnil =>
    cases hnil
    refine snd_same m (v := .pointer (some ⟨b, o + j.toNat * i.size, none⟩)) ?_ (.rop (us := (us.drop (j.toNat * i.size)).take i.size) (fun hl => h2 (fun e => hl (by rw [e]; simp))) (rangeAt_take (rangeAt_drop h5 _) _) (closedL_take _ _ (closedL_drop _ _ hcl)) (rep_take _ (rep_drop _ h6)) .nil)
    simp [Instr.indexAt, asIntOf, run_underlying hu, sizeOf, typeInfo, hi, h0, h1, Addr.add_mid]

theorem snd_field_ptr (m : Mem k h w L F U) {st : TypeId} {f : Nat} {fd : Field} {q id off : Nat} {x : Value} (hx : RTV (SS k h L F w) U L w x (.v false [.ptr id off])) (hf : fieldT P st f = some fd) (hs : szT P fd.type = some (q + 1)) :
    Snd k h w L F U nid ((do pure (Next.value (← Instr.fieldAt st x f)) : Sem Next).run P w) (.v false [.ptr id (off + fd.offset)]) [] := by
  obtain ⟨fs, hu, hfs⟩ := fieldT_some hf
  obtain ⟨i, hi, hiq⟩ := szT_some hs
  cases hx with
  | ptr hU hnil =>
    cases hnil
    refine snd_same m (v := .pointer (some ⟨(L id).1, (L id).2 + (off + fd.offset), none⟩)) ?_ (.ptr hU .nil)
    simp [Instr.fieldAt, Instr.sureAddr, run_underlying hu, hfs, fieldPlace, sizeOf, typeInfo, hi, hiq, Addr.add_mid, Nat.add_assoc]

theorem snd_field_rop (m : Mem k h w L F U) {st : TypeId} {f : Nat} {fd : Field} {q : Nat} {x : Value} {l : List Cell} (hx : RTV (SS k h L F w) U L w x (.v false [.rop l])) (hf : fieldT P st f = some fd) (hs : szT P fd.type = some (q + 1)) :
    Snd k h w L F U nid ((do pure (Next.value (← Instr.fieldAt st x f)) : Sem Next).run P w) (.v false [.rop (l.drop fd.offset)]) [] := by
  obtain ⟨fs, hu, hfs⟩ := fieldT_some hf
  obtain ⟨i, hi, hiq⟩ := szT_some hs
  cases hx with
  | @rop b o _ us _ _ _ h2 h5 hcl h6 hnil =>
    cases hnil
    refine snd_same m (v := .pointer (some ⟨b, o + fd.offset, none⟩)) ?_ (.rop (us := us.drop fd.offset) (fun hl => h2 (fun e => hl (by rw [e]; simp))) (rangeAt_drop h5 _) (closedL_drop _ _ hcl) (rep_drop _ h6) .nil)
    simp [Instr.fieldAt, Instr.sureAddr, run_underlying hu, hfs, fieldPlace, sizeOf, typeInfo, hi, hiq, Addr.add_mid]

end
end

section
open Go Go.RowKit

section

variable {k : Base} {h : Nat → Option Node} {w : World} {L : Nat → Nat × Nat} {F : Nat → List Nat} {U : Nat → Prop} {nid : Nat} {P : Program}

theorem snd_new_ptr (m : Mem k h w L F U) (hn : h nid = none) (hU : ¬ U nid) {c : Array Value} {e : TypeId} {cells : List Cell} (hr : Rep (SS k h L F w) U L w c.toList cells []) {r : Result Next}
    (hrun : r = .ok (.value (.pointer (some ⟨w.heap.size, 0, none⟩))) (w.alloc (.cells c e))) : Snd k h w L F U nid r (.v false [.ptr nid 0]) [(nid, some (true, cells))] := by
  obtain ⟨m', mo⟩ := m.alloc hn hU e hr (fun _ _ hv => hv) (by simp)
  refine ⟨_, _, _, _, _, hrun, .inl ⟨_, rfl, ?_⟩, m', mo, fun i hi => hi.imp (fun x => x) (fun e => by simp [e])⟩
  have := @Rep.ptr (SS k (ups h [(nid, some (true, cells))]) (upd L nid (w.heap.size, 0)) (upd F nid []) (w.alloc (.cells c e))) (fun i => U i ∨ i = nid) (upd L nid (w.heap.size, 0)) (w.alloc (.cells c e)) nid 0 [] [] [] (.inr rfl) .nil
  rw [upd_same] at this
  exact this

theorem snd_new_ref (m : Mem k h w L F U) (hn : h nid = none) (hU : ¬ U nid) {c : Array Value} {e : TypeId} {us : List Value} {cells : List Cell} {n s cap : Nat} (hr : Rep (SS k h L F w) U L w us cells [])
    (hus : ∀ (j : Nat) (v : Value), us[j]? = some v → c.toList[j]? = some v) (hle : us.length ≤ c.size) (hcap : cap * s ≤ c.size) (hnc : n ≤ cap) (h0 : n = 0 → cap = 0) {r : Result Next}
    (hrun : r = .ok (.value (.slice (some ⟨w.heap.size, 0, none⟩) n cap)) (w.alloc (.cells c e))) : Snd k h w L F U nid r (.v false [.ref nid 0 n s]) [(nid, some (true, cells))] := by
  obtain ⟨m', mo⟩ := m.alloc hn hU e hr hus hle
  refine ⟨_, _, _, _, _, hrun, .inl ⟨_, rfl, ?_⟩, m', mo, fun i hi => hi.imp (fun x => x) (fun e => by simp [e])⟩
  by_cases hz : n = 0
  · subst hz
    obtain rfl := h0 rfl
    exact .ref0 (.inr rfl) (.inr ⟨_, _, rfl⟩) .nil
  have := @Rep.ref (SS k (ups h [(nid, some (true, cells))]) (upd L nid (w.heap.size, 0)) (upd F nid []) (w.alloc (.cells c e))) (fun i => U i ∨ i = nid) (upd L nid (w.heap.size, 0)) (w.alloc (.cells c e)) nid 0 n s cap [] [] [] (.inr rfl)
    (by rw [upd_same]; exact (wr_alloc w c e).mono (by simpa using hcap)) hnc hz .nil
  rw [upd_same] at this
  exact this

/-- A step behind a draw. -/
theorem Snd.drew (m : Mem k h w L F U) {r : Result Next} {tv l} (hs : ∀ (_ : Mem k h w.drew L F U), Mono k h w L F U h w.drew L F U → Snd k h w.drew L F U nid r tv l) : Snd k h w L F U nid r tv l := by
  obtain ⟨m', mo⟩ := m.same (w' := w.drew) rfl rfl rfl rfl
  obtain ⟨nx, w', L', F', U', h1, h2, h3, h4, h5⟩ := hs m' mo
  exact ⟨nx, w', L', F', U', h1, h2, h3, mo.trans h4, h5⟩

theorem zeroT_some {t : TypeId} {z : List Cell} (hz : zeroT P t = some z) : ∃ i v, P.info? t = some i ∧ i.zero = some v ∧ v.cells.size = i.size ∧ z = v.cells.toList.map ofV ∧ ∀ x ∈ v.cells.toList, x.oneCell' = true := by
  unfold zeroT at hz
  split at hz
  · rename_i i hi
    split at hz
    · rename_i v hv
      split at hz
      · rename_i hc
        obtain rfl := Option.some.inj hz
        exact ⟨i, v, hi, hv, hc.1, rfl, List.all_eq_true.1 hc.2⟩
      · cases hz
    · cases hz
  · cases hz

theorem snd_alloc (m : Mem k h w L F U) (hn : h nid = none) (hU : ¬ U nid) {t : TypeId} {z : List Cell} (hz : zeroT P t = some z) :
    Snd k h w L F U nid ((do pure (Next.value (← Instr.alloc t true (.tuple #[]))) : Sem Next).run P w) (.v false [.ptr nid 0]) [(nid, some (true, z))] := by
  obtain ⟨i, v, hi, hv, hs, rfl, h1⟩ := zeroT_some hz
  refine snd_new_ptr m hn hU (c := v.cells) (e := t) (rep_ofV h1) ?_
  simp [Instr.alloc, zeroValue, typeInfo, hi, hv, newVar, newRow]

theorem snd_box (m : Mem k h w L F U) (hn : h nid = none) (hU : ¬ U nid) {t : TypeId} {x : Value} {b : Bool} {l : List Cell} (hx : RTV (SS k h L F w) U L w x (.v b l)) :
    Snd k h w L F U nid ((do pure (Next.value (← Instr.box t x)) : Sem Next).run P w) (.v false [.ptr nid 0]) [(nid, some (true, l))] := by
  refine snd_new_ptr m hn hU (c := x.cells) (e := t) (RV.cells (rtv_v hx)) ?_
  simp [Instr.box, newVar, newRow]

theorem snd_store (m : Mem k h w L F U) {t : TypeId} {a x : Value} {b : Bool} {id off : Nat} {l cs : List Cell} (ha : RTV (SS k h L F w) U L w a (.v false [.ptr id off])) (hx : RTV (SS k h L F w) U L w x (.v b l))
    (hid : h id = some (true, cs)) (hc : szT P t = some l.length ∧ off + l.length ≤ cs.length) :
    Snd k h w L F U nid ((do Instr.storeAt t a x; pure Next.skip : Sem Next).run P w) .undef [(id, some (true, putAt cs off l))] := by
  have hrx := RV.cells (rtv_v hx)
  obtain ⟨i, hi, hsz⟩ := szT_some hc.1
  have e : cs = cs.take off ++ (cs.drop off).take l.length ++ cs.drop (off + l.length) := by
    rw [List.append_assoc, ← List.drop_drop, List.take_append_drop, List.take_append_drop]
  obtain ⟨G, m', mo, hth⟩ := m.write (A := cs.take off) (B := (cs.drop off).take l.length) (C := cs.drop (off + l.length)) (by rw [hid]; exact congrArg (fun q => some (true, q)) e) (by simp; omega) hrx
  have hl := hrx.length
  cases ha with
  | ptr hU hnil =>
    cases hnil
    have hA : (cs.take off).length = off := by simp; omega
    rw [hA] at hth m' mo
    refine ⟨.skip, _, _, _, _, ?_, .inr ⟨rfl, rfl⟩, m', mo, fun i hi => .inl hi⟩
    have hst := run_storeCells_cells (P := P) (L id).1 ((L id).2 + off) x.cells.toList 0 w (fun j hj => by simpa using (hth j (by simpa using hj)).1) (fun j hj => by simpa using (hth j (by simpa using hj)).2) hrx.one
    simp only [Nat.add_zero] at hst
    have hsz' : x.cells.size = i.size := by rw [hsz, ← hl]; simp
    simp [Instr.storeAt, Instr.sureAddr, storeVar, sizeOf, typeInfo, hi, hsz', hst]

/-! ### Literals -/

theorem foldl_set (v : List Value) : ∀ (cs : Array Value) (off j : Nat), off + j + v.length ≤ cs.size →
    ((v.zipIdx j).foldl (fun cs (p : Value × Nat) => cs.setIfInBounds (off + p.2) p.1) cs).toList = cs.toList.take (off + j) ++ v ++ cs.toList.drop (off + j + v.length) := by
  induction v with
  | nil => intro cs off j _; simp
  | cons a v ih =>
    intro cs off j hj
    simp only [List.zipIdx_cons, List.foldl_cons]
    simp at hj
    rw [ih _ off (j + 1) (by simp; omega)]
    have hlt : off + j < cs.toList.length := by simp; omega
    simp only [Array.toList_setIfInBounds]
    rw [List.set_eq_take_append_cons_drop, if_pos hlt]
    have h1 : (cs.toList.take (off + j)).length = off + j := by simp; omega
    rw [show off + (j + 1) = (cs.toList.take (off + j)).length + 1 by omega, List.take_length_add_append]
    rw [show (cs.toList.take (off + j)).length + 1 + v.length = (cs.toList.take (off + j)).length + (1 + v.length) by omega, List.drop_length_add_append, Nat.add_comm 1 v.length]
    simp only [List.take_succ_cons, List.take_zero, List.drop_succ_cons, List.drop_drop, List.length_cons, List.append_assoc, List.cons_append, List.nil_append]
    rw [show off + j + 1 + v.length = off + j + (v.length + 1) by omega]

theorem fill_rep {S U L w} {place : Nat → Option (Nat × Nat)} : ∀ (parts : List (Nat × Value)) (tparts : List (Nat × TV)) (cs : Array Value) (tcs out : List Cell),
    Rep S U L w cs.toList tcs [] → parts.length = tparts.length → (∀ (j : Nat) (p : Nat × Value) (q : Nat × TV), parts[j]? = some p → tparts[j]? = some q → p.1 = q.1 ∧ RTV S U L w p.2 q.2) → fillT place tcs tparts = some out →
    ∃ cs', Instr.fill place cs parts = some cs' ∧ Rep S U L w cs'.toList out []
  | [], [], cs, tcs, out, hr, _, _, he => by
    simp [fillT] at he; subst he; exact ⟨cs, rfl, hr⟩
  | [], _ :: _, _, _, _, _, hl, _, _ => by simp at hl
  | _ :: _, [], _, _, _, _, hl, _, _ => by simp at hl
  | (i, x) :: ps, (i', tv) :: qs, cs, tcs, out, hr, hl, hp, he => by
    obtain ⟨e, hx⟩ := hp 0 _ _ rfl rfl
    simp only at e hx
    subst e
    cases tv with
    | undef => simp [fillT] at he
    | tup _ => simp [fillT] at he
    | v b l =>
      simp only [fillT] at he
      split at he
      · rename_i off size hpl
        split at he
        · rename_i hc
          obtain ⟨h1, h2⟩ := hc
          have hrx := RV.cells (rtv_v hx)
          have lx := hrx.length
          have lr := hr.length
          simp at lx lr
          have ht := foldl_set x.cells.toList cs off 0 (by simp; omega)
          simp only [Nat.add_zero] at ht
          have hrep : Rep S U L w (cs.toList.take off ++ x.cells.toList ++ cs.toList.drop (off + l.length)) (putAt tcs off l) [] := by
            have := ((rep_take off hr).append hrx).append (rep_drop (off + l.length) hr)
            simpa [putAt] using this
          obtain ⟨cs', k1, k2⟩ := fill_rep ps qs (x.cells.zipIdx.foldl (fun cs (p : Value × Nat) => cs.setIfInBounds (off + p.2) p.1) cs) (putAt tcs off l) out
            (by
              have e2 : (x.cells.zipIdx.foldl (fun cs (p : Value × Nat) => cs.setIfInBounds (off + p.2) p.1) cs).toList = cs.toList.take off ++ x.cells.toList ++ cs.toList.drop (off + l.length) := by
                rw [← Array.foldl_toList, Array.toList_zipIdx, ht]; simp [lx]
              rw [e2]; exact hrep) (by simpa using hl) (fun j p q hp' hq' => hp (j + 1) p q hp' hq') he
          refine ⟨cs', ?_, k2⟩
          unfold Instr.fill
          have hno : ¬ (x.cells.size ≠ size ∨ off + x.cells.size > cs.size) := by omega
          simp only [hpl]
          rw [if_neg (by simpa using hno)]
          exact k1
        · cases he
      · cases he

end
end

end Go.Proofs.YtddikflnjloagaaGreatDoor
