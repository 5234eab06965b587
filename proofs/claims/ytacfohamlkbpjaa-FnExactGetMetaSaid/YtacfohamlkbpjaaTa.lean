/- Cells, values and states of the T reading of a program; how they stand for the machine's memory. -/
import Derived.Calls
import Derived.Below
import Derived.Deep.AppendSrc
import Derived.Deep.MidRow
namespace Go.Proofs.Ytacfohamlkbpjaa
open Go Go.RowKit

/-- What a cell of memory (or a part of a value) holds. `sl own n s l`: a slice of `n` elements of `s` cells each, whose cells are `l`. -/
inductive Cell where
  | prim (v : Value)
  | nil
  | sl (own : Bool) (n s : Nat) (l : List Cell)
  | ref (id off n s : Nat)
  | ptr (id off : Nat)
  | rop (l : List Cell)
  | dead
  deriving Inhabited

/-- A value in a slot: one cell, or (`agg`) the cells of a struct; several results; nothing known. -/
inductive TV where
  | v (agg : Bool) (l : List Cell)
  | tup (l : List (Bool × List Cell))
  | undef
  deriving Inhabited

abbrev Node := Bool × List Cell

structure St where
  t : List TV
  h : List (Option Node)

def St.tv (σ : St) (i : Nat) : TV := σ.t.getD i .undef
def St.nd (σ : St) (i : Nat) : Option Node := (σ.h[i]?).join

/-- A cell that leads to no node. -/
def Cell.shal : Cell → Bool
  | .prim _ | .nil | .sl .. => true
  | _ => false

mutual
/-- .. nor does anything within. -/
def Cell.closed : Cell → Bool
  | .prim _ | .nil => true
  | .sl _ _ _ l => closedL l
  | _ => false
def closedL : List Cell → Bool
  | [] => true
  | c :: l => c.closed && closedL l
end

mutual
/-- The same, nothing of it the call's own any more. -/
def Cell.roify : Cell → Cell
  | .sl _ n s l => .sl false n s (roifyL l)
  | c => c
def roifyL : List Cell → List Cell
  | [] => []
  | c :: l => c.roify :: roifyL l
end

/-- Block `b` may be written in all its cells, of which there are at least `m`. -/
def Wr (w : World) (b m : Nat) : Prop :=
  ∃ (c : Array Value) (e : TypeId) (lo hi : Nat), w.heap[b]? = some (Obj.cells c e (lo, hi)) ∧ m ≤ c.size ∧ ∀ off, off < c.size → ¬ (lo ≤ off ∧ off < hi)

/-- No block of cells goes, or changes its size, its type, or what of it is frozen. -/
def Grows (w w' : World) : Prop :=
  w.heap.size ≤ w'.heap.size ∧ ∀ (b : Nat) (c : Array Value) (e : TypeId) (fr : Nat × Nat), w.heap[b]? = some (Obj.cells c e fr) → ∃ c' : Array Value, w'.heap[b]? = some (Obj.cells c' e fr) ∧ c'.size = c.size

theorem Grows.refl (w : World) : Grows w w := ⟨Nat.le_refl _, fun _ c _ _ h => ⟨c, h, rfl⟩⟩
theorem Grows.trans {a b c : World} (h : Grows a b) (k : Grows b c) : Grows a c :=
  ⟨Nat.le_trans h.1 k.1, fun i x e fr hx => by
    obtain ⟨x', hx', e1⟩ := h.2 i x e fr hx
    obtain ⟨x'', hx'', e2⟩ := k.2 i x' e fr hx'
    exact ⟨x'', hx'', e2.trans e1⟩⟩

theorem Wr.grows {w w' : World} {b m : Nat} (h : Wr w b m) (g : Grows w w') : Wr w' b m := by
  obtain ⟨c, e, lo, hi, h1, h2, h3⟩ := h
  obtain ⟨c', h1', hs⟩ := g.2 _ _ _ _ h1
  exact ⟨c', e, lo, hi, h1', by omega, by rw [hs]; exact h3⟩

theorem Wr.mono {w : World} {b m m' : Nat} (h : Wr w b m) (hm : m' ≤ m) : Wr w b m' := by
  obtain ⟨c, e, lo, hi, h1, h2, h3⟩ := h
  exact ⟨c, e, lo, hi, h1, by omega, h3⟩

theorem Wr.lt {w : World} {b m : Nat} (h : Wr w b m) : b < w.heap.size := by
  obtain ⟨c, e, lo, hi, h1, _, _⟩ := h
  exact (Array.getElem?_eq_some_iff.1 h1).1

theorem Wr.cell {w : World} {b m : Nat} (h : Wr w b m) {o : Nat} (ho : o < m) : (w.cell? ⟨b, o, none⟩).isSome = true := by
  obtain ⟨c, e, lo, hi, h1, h2, _⟩ := h
  simp [World.cell?, h1]; omega

theorem Wr.unfrozen {w : World} {b m : Nat} (h : Wr w b m) {o : Nat} (ho : o < m) : w.frozen? ⟨b, o, none⟩ = false := by
  obtain ⟨c, e, lo, hi, h1, h2, h3⟩ := h
  have := h3 o (by omega)
  simp [World.frozen?, h1]; omega

theorem Wr.there {w : World} {b m o n : Nat} (h : Wr w b m) (ho : o + n ≤ m) : w.there b o n :=
  fun j hj => ⟨h.cell (by omega), h.unfrozen (by omega)⟩

/-- The pointer of a slice without elements and without room. -/
def zp (p : Option Addr) : Prop := p = none ∨ ∃ b o, p = some ⟨b, o, none⟩

/-- How values stand for cells: `S` says which blocks are not written any more, `U` which node ids are in use, `L` where a node lies. The last list: the blocks of the slices within that are the cells' own. -/
inductive Rep (S U : Nat → Prop) (L : Nat → Nat × Nat) (w : World) : List Value → List Cell → List Nat → Prop
  | nil : Rep S U L w [] [] []
  | prim {v vs cs F} : v.oneCell' = true → Rep S U L w vs cs F → Rep S U L w (v :: vs) (.prim v :: cs) F
  | nils {vs cs F} : Rep S U L w vs cs F → Rep S U L w (.slice none 0 0 :: vs) (.nil :: cs) F
  | ro {b o n cap s l us vs cs F} : (l ≠ [] → S b) → l.length = n * s → n ≤ cap → w.rangeAt b o us → closedL l = true → Rep S U L w us l [] → Rep S U L w vs cs F →
      Rep S U L w (.slice (some ⟨b, o, none⟩) n cap :: vs) (.sl false n s l :: cs) F
  | own {b o n cap s l us F1 vs cs F} : Wr w b (o + cap * s) → l.length = n * s → n ≤ cap → w.rangeAt b o us → closedL l = true → l ≠ [] → Rep S U L w us l F1 → Rep S U L w vs cs F →
      Rep S U L w (.slice (some ⟨b, o, none⟩) n cap :: vs) (.sl true n s l :: cs) (b :: F1 ++ F)
  | ref {id off n s cap vs cs F} : U id → Wr w (L id).1 ((L id).2 + off + cap * s) → n ≤ cap → n ≠ 0 → Rep S U L w vs cs F →
      Rep S U L w (.slice (some ⟨(L id).1, (L id).2 + off, none⟩) n cap :: vs) (.ref id off n s :: cs) F
  | ro0 {p cap s vs cs F} : (p = none → cap = 0) → Rep S U L w vs cs F → Rep S U L w (.slice p 0 cap :: vs) (.sl false 0 s [] :: cs) F
  | own0 {p s vs cs F} : zp p → Rep S U L w vs cs F → Rep S U L w (.slice p 0 0 :: vs) (.sl true 0 s [] :: cs) F
  | ref0 {p id off s vs cs F} : U id → zp p → Rep S U L w vs cs F → Rep S U L w (.slice p 0 0 :: vs) (.ref id off 0 s :: cs) F
  | ptr {id off vs cs F} : U id → Rep S U L w vs cs F → Rep S U L w (.pointer (some ⟨(L id).1, (L id).2 + off, none⟩) :: vs) (.ptr id off :: cs) F
  | rop {b o l us vs cs F} : (l ≠ [] → S b) → w.rangeAt b o us → closedL l = true → Rep S U L w us l [] → Rep S U L w vs cs F →
      Rep S U L w (.pointer (some ⟨b, o, none⟩) :: vs) (.rop l :: cs) F
  | dead {v vs cs F} : v.oneCell' = true → Rep S U L w vs cs F → Rep S U L w (v :: vs) (.dead :: cs) F

theorem rep_nil {S U L w vs F} (h : Rep S U L w vs [] F) : vs = [] ∧ F = [] := by cases h; exact ⟨rfl, rfl⟩

theorem Rep.length {S U L w vs cs F} (h : Rep S U L w vs cs F) : vs.length = cs.length := by
  induction h <;> simp_all

theorem Rep.one {S U L w vs cs F} (h : Rep S U L w vs cs F) : ∀ v ∈ vs, v.oneCell' = true := by
  induction h with
  | nil => simp
  | prim h1 _ ih => exact List.forall_mem_cons.2 ⟨h1, ih⟩
  | nils _ ih => exact List.forall_mem_cons.2 ⟨rfl, ih⟩
  | ro _ _ _ _ _ _ _ _ ih => exact List.forall_mem_cons.2 ⟨rfl, ih⟩
  | own _ _ _ _ _ _ _ _ _ ih => exact List.forall_mem_cons.2 ⟨rfl, ih⟩
  | ref _ _ _ _ _ ih => exact List.forall_mem_cons.2 ⟨rfl, ih⟩
  | ro0 _ _ ih => exact List.forall_mem_cons.2 ⟨rfl, ih⟩
  | own0 _ _ ih => exact List.forall_mem_cons.2 ⟨rfl, ih⟩
  | ref0 _ _ _ ih => exact List.forall_mem_cons.2 ⟨rfl, ih⟩
  | ptr _ _ ih => exact List.forall_mem_cons.2 ⟨rfl, ih⟩
  | rop _ _ _ _ _ _ ih => exact List.forall_mem_cons.2 ⟨rfl, ih⟩
  | dead h1 _ ih => exact List.forall_mem_cons.2 ⟨h1, ih⟩

theorem rangeAt_of_block {w w' : World} {b : Nat} (h : w'.heap[b]? = w.heap[b]?) {o : Nat} {us : List Value} (hr : w.rangeAt b o us) : w'.rangeAt b o us :=
  fun j v hv => (World.cell?_of_block (w := w) (a := ⟨b, o + j, none⟩) h).trans (hr j v hv)

theorem rangeAt_nil (w : World) (b o : Nat) : w.rangeAt b o [] := fun j v h => by simp at h

theorem rangeAt_lt {w : World} {b o : Nat} {us : List Value} (h : w.rangeAt b o us) (hu : us ≠ []) : b < w.heap.size := by
  cases us with
  | nil => exact absurd rfl hu
  | cons v r => exact World.block_lt_of_cell? _ _ (h 0 v rfl)

/-- What stands for the cells stands for them in another world, too, where the blocks that matter are as they were. -/
theorem Rep.carry {S U L w vs cs F} (h : Rep S U L w vs cs F) {S' U' : Nat → Prop} {L' : Nat → Nat × Nat} {w' : World}
    (hS : ∀ b, S b → S' b ∧ w'.heap[b]? = w.heap[b]?) (hU : ∀ i, U i → U' i ∧ L' i = L i) (hF : ∀ b ∈ F, w'.heap[b]? = w.heap[b]?) (hg : Grows w w') :
    Rep S' U' L' w' vs cs F := by
  induction h with
  | nil => exact .nil
  | prim h1 _ ih => exact .prim h1 (ih hF)
  | nils _ ih => exact .nils (ih hF)
  | @ro b o n cap s l us vs cs F h1 h2 h3 h4 hc h5 _ ih1 ih2 =>
    refine .ro (fun hl => (hS _ (h1 hl)).1) h2 h3 ?_ hc (ih1 (by simp)) (ih2 hF)
    by_cases hl : l = []
    · have : us = [] := by have := h5.length; subst hl; simpa using this
      subst this; exact rangeAt_nil _ _ _
    · exact rangeAt_of_block (hS _ (h1 hl)).2 h4
  | @own b o n cap s l us F1 vs cs F h1 h2 h3 h4 hc hz h5 _ ih1 ih2 =>
    exact .own (h1.grows hg) h2 h3 (rangeAt_of_block (hF _ (by simp)) h4) hc hz (ih1 fun b hb => hF b (by simp [hb])) (ih2 fun b hb => hF b (by simp [hb]))
  | @ref id off n s cap vs cs F h1 h2 h3 hz _ ih =>
    have e := (hU _ h1).2
    rw [← e] at h2 ⊢
    exact .ref (hU _ h1).1 (h2.grows hg) h3 hz (ih hF)
  | ro0 h1 _ ih => exact .ro0 h1 (ih hF)
  | own0 h1 _ ih => exact .own0 h1 (ih hF)
  | ref0 h1 h2 _ ih => exact .ref0 (hU _ h1).1 h2 (ih hF)
  | @ptr id off vs cs F h1 _ ih =>
    have e := (hU _ h1).2
    rw [← e]
    exact .ptr (hU _ h1).1 (ih hF)
  | @rop b o l us vs cs F h1 h4 hc h5 _ ih1 ih2 =>
    refine .rop (fun hl => (hS _ (h1 hl)).1) ?_ hc (ih1 (by simp)) (ih2 hF)
    by_cases hl : l = []
    · have : us = [] := by have := h5.length; subst hl; simpa using this
      subst this; exact rangeAt_nil _ _ _
    · exact rangeAt_of_block (hS _ (h1 hl)).2 h4
  | dead h1 _ ih => exact .dead h1 (ih hF)

theorem Rep.append {S U L w vs cs F vs' cs' F'} (h : Rep S U L w vs cs F) (h' : Rep S U L w vs' cs' F') : Rep S U L w (vs ++ vs') (cs ++ cs') (F ++ F') := by
  induction h with
  | nil => exact h'
  | prim h1 _ ih => exact .prim h1 ih
  | nils _ ih => exact .nils ih
  | ro h1 h2 h3 h4 hc h5 _ _ ih => exact .ro h1 h2 h3 h4 hc h5 ih
  | own h1 h2 h3 h4 hc hz h5 _ _ ih => rw [List.append_assoc]; exact .own h1 h2 h3 h4 hc hz h5 ih
  | ref h1 h2 h3 hz _ ih => exact .ref h1 h2 h3 hz ih
  | ro0 h1 _ ih => exact .ro0 h1 ih
  | own0 h1 _ ih => exact .own0 h1 ih
  | ref0 h1 h2 _ ih => exact .ref0 h1 h2 ih
  | ptr h1 _ ih => exact .ptr h1 ih
  | rop h1 h4 hc h5 _ _ ih => exact .rop h1 h4 hc h5 ih
  | dead h1 _ ih => exact .dead h1 ih

theorem Rep.split {S U L w} : ∀ {cs1 cs2 : List Cell} {vs : List Value} {F : List Nat}, Rep S U L w vs (cs1 ++ cs2) F →
    ∃ vs1 vs2 F1 F2, vs = vs1 ++ vs2 ∧ F = F1 ++ F2 ∧ Rep S U L w vs1 cs1 F1 ∧ Rep S U L w vs2 cs2 F2
  | [], cs2, vs, F, h => ⟨[], vs, [], F, rfl, rfl, .nil, h⟩
  | c :: cs1, cs2, vs, F, h => by
    cases h with
    | prim h1 h => obtain ⟨a, b, A, B, rfl, rfl, k1, k2⟩ := Rep.split h; exact ⟨_ :: a, b, A, B, rfl, rfl, .prim h1 k1, k2⟩
    | nils h => obtain ⟨a, b, A, B, rfl, rfl, k1, k2⟩ := Rep.split h; exact ⟨_ :: a, b, A, B, rfl, rfl, .nils k1, k2⟩
    | ro h1 h2 h3 h4 hc h5 h => obtain ⟨a, b, A, B, rfl, rfl, k1, k2⟩ := Rep.split h; exact ⟨_ :: a, b, A, B, rfl, rfl, .ro h1 h2 h3 h4 hc h5 k1, k2⟩
    | own h1 h2 h3 h4 hc hz h5 h => obtain ⟨a, b, A, B, rfl, rfl, k1, k2⟩ := Rep.split h; exact ⟨_ :: a, b, _, B, rfl, by rw [List.append_assoc], .own h1 h2 h3 h4 hc hz h5 k1, k2⟩
    | ref h1 h2 h3 hz h => obtain ⟨a, b, A, B, rfl, rfl, k1, k2⟩ := Rep.split h; exact ⟨_ :: a, b, A, B, rfl, rfl, .ref h1 h2 h3 hz k1, k2⟩
    | ro0 h1 h => obtain ⟨a, b, A, B, rfl, rfl, k1, k2⟩ := Rep.split h; exact ⟨_ :: a, b, A, B, rfl, rfl, .ro0 h1 k1, k2⟩
    | own0 h1 h => obtain ⟨a, b, A, B, rfl, rfl, k1, k2⟩ := Rep.split h; exact ⟨_ :: a, b, A, B, rfl, rfl, .own0 h1 k1, k2⟩
    | ref0 h1 h2 h => obtain ⟨a, b, A, B, rfl, rfl, k1, k2⟩ := Rep.split h; exact ⟨_ :: a, b, A, B, rfl, rfl, .ref0 h1 h2 k1, k2⟩
    | ptr h1 h => obtain ⟨a, b, A, B, rfl, rfl, k1, k2⟩ := Rep.split h; exact ⟨_ :: a, b, A, B, rfl, rfl, .ptr h1 k1, k2⟩
    | rop h1 h4 hc h5 h => obtain ⟨a, b, A, B, rfl, rfl, k1, k2⟩ := Rep.split h; exact ⟨_ :: a, b, A, B, rfl, rfl, .rop h1 h4 hc h5 k1, k2⟩
    | dead h1 h => obtain ⟨a, b, A, B, rfl, rfl, k1, k2⟩ := Rep.split h; exact ⟨_ :: a, b, A, B, rfl, rfl, .dead h1 k1, k2⟩

/-- The blocks of own slices are there. -/
theorem Rep.lt {S U L w vs cs F} (h : Rep S U L w vs cs F) : ∀ b ∈ F, b < w.heap.size := by
  induction h with
  | nil => simp
  | prim _ _ ih => exact ih
  | nils _ ih => exact ih
  | ro _ _ _ _ _ _ _ _ ih => exact ih
  | own h1 _ _ _ _ _ _ _ ih1 ih2 =>
    intro b hb
    rcases List.mem_append.1 hb with hb | hb
    · rcases List.mem_cons.1 hb with rfl | hb
      · exact h1.lt
      · exact ih1 b hb
    · exact ih2 b hb
  | ref _ _ _ _ _ ih => exact ih
  | ro0 _ _ ih => exact ih
  | own0 _ _ ih => exact ih
  | ref0 _ _ _ ih => exact ih
  | ptr _ _ ih => exact ih
  | rop _ _ _ _ _ _ ih => exact ih
  | dead _ _ ih => exact ih

/-- What leads to no node stands for the same whatever nodes there are. -/
theorem Rep.free {S U L w vs cs F} (h : Rep S U L w vs cs F) {U' : Nat → Prop} {L' : Nat → Nat × Nat} (hc : closedL cs = true) : Rep S U' L' w vs cs F := by
  induction h with
  | nil => exact .nil
  | prim h1 _ ih => exact .prim h1 (ih (by simpa [closedL, Cell.closed] using hc))
  | nils _ ih => exact .nils (ih (by simpa [closedL, Cell.closed] using hc))
  | ro h1 h2 h3 h4 hc' _ _ ih1 ih2 => exact .ro h1 h2 h3 h4 hc' (ih1 hc') (ih2 (by simp [closedL] at hc; exact hc.2))
  | own h1 h2 h3 h4 hc' hz _ _ ih1 ih2 => exact .own h1 h2 h3 h4 hc' hz (ih1 hc') (ih2 (by simp [closedL] at hc; exact hc.2))
  | ref _ _ _ _ _ _ => simp [closedL, Cell.closed] at hc
  | ro0 h1 _ ih => exact .ro0 h1 (ih (by simp [closedL] at hc; exact hc.2))
  | own0 h1 _ ih => exact .own0 h1 (ih (by simp [closedL] at hc; exact hc.2))
  | ref0 _ _ _ _ => simp [closedL, Cell.closed] at hc
  | ptr _ _ _ => simp [closedL, Cell.closed] at hc
  | rop _ _ _ _ _ _ _ => simp [closedL, Cell.closed] at hc
  | dead _ _ _ => simp [closedL, Cell.closed] at hc

theorem Rep.closed {S U L w vs cs F} (h : Rep S U L w vs cs F) (hs : cs.all Cell.shal = true) : closedL cs = true := by
  induction h with
  | nil => rfl
  | prim _ _ ih => simp only [List.all_cons, Bool.and_eq_true] at hs; simp [closedL, Cell.closed, ih hs.2]
  | nils _ ih => simp only [List.all_cons, Bool.and_eq_true] at hs; simp [closedL, Cell.closed, ih hs.2]
  | ro _ _ _ _ hc _ _ _ ih => simp only [List.all_cons, Bool.and_eq_true] at hs; simp [closedL, Cell.closed, ih hs.2, hc]
  | own _ _ _ _ hc _ _ _ _ ih => simp only [List.all_cons, Bool.and_eq_true] at hs; simp [closedL, Cell.closed, ih hs.2, hc]
  | ref _ _ _ _ _ _ => simp [Cell.shal] at hs
  | ro0 _ _ ih => simp only [List.all_cons, Bool.and_eq_true] at hs; simp [closedL, Cell.closed, ih hs.2]
  | own0 _ _ ih => simp only [List.all_cons, Bool.and_eq_true] at hs; simp [closedL, Cell.closed, ih hs.2]
  | ref0 _ _ _ _ => simp [Cell.shal] at hs
  | ptr _ _ _ => simp [Cell.shal] at hs
  | rop _ _ _ _ _ _ _ => simp [Cell.shal] at hs
  | dead _ _ _ => simp [Cell.shal] at hs

mutual
theorem Cell.closed_roify : ∀ c : Cell, c.roify.closed = c.closed
  | .sl _ _ _ l => by simp [Cell.roify, Cell.closed, closedL_roify l]
  | .prim _ | .nil | .ref .. | .ptr .. | .rop _ | .dead => rfl
theorem closedL_roify : ∀ l : List Cell, closedL (roifyL l) = closedL l
  | [] => rfl
  | c :: l => by simp [roifyL, closedL, Cell.closed_roify c, closedL_roify l]
end

mutual
theorem Cell.roify_roify : ∀ c : Cell, c.roify.roify = c.roify
  | .sl _ _ _ l => by simp [Cell.roify, roifyL_roifyL l]
  | .prim _ | .nil | .ref .. | .ptr .. | .rop _ | .dead => rfl
theorem roifyL_roifyL : ∀ l : List Cell, roifyL (roifyL l) = roifyL l
  | [] => rfl
  | c :: l => by simp [roifyL, Cell.roify_roify c, roifyL_roifyL l]
end

theorem roifyL_eq_nil {l : List Cell} (h : roifyL l ≠ []) : l ≠ [] := by rintro rfl; exact h rfl
theorem roifyL_length : ∀ l : List Cell, (roifyL l).length = l.length
  | [] => rfl
  | c :: l => by simp [roifyL, roifyL_length l]
theorem roifyL_append : ∀ a b : List Cell, roifyL (a ++ b) = roifyL a ++ roifyL b
  | [], _ => rfl
  | c :: a, b => by simp [roifyL, roifyL_append a b]

theorem ro_zero {S U L w p s vs cs F} (hp : zp p) (h : Rep S U L w vs cs F) : Rep S U L w (.slice p 0 0 :: vs) (.sl false 0 s [] :: cs) F := by
  exact .ro0 (fun _ => rfl) h

/-- What was the call's own, once nobody writes it any more. -/
theorem Rep.roify {S U L w vs cs F} (h : Rep S U L w vs cs F) {S' : Nat → Prop} (hS : ∀ b, S b → S' b) (hF : ∀ b ∈ F, S' b) : Rep S' U L w vs (roifyL cs) [] := by
  induction h with
  | nil => exact .nil
  | prim h1 _ ih => exact .prim h1 (ih hF)
  | nils _ ih => exact .nils (ih hF)
  | ro h1 h2 h3 h4 hc _ _ ih1 ih2 => exact .ro (fun hl => hS _ (h1 (roifyL_eq_nil hl))) (by rw [roifyL_length]; exact h2) h3 h4 (by rw [closedL_roify]; exact hc) (ih1 (by simp)) (ih2 hF)
  | own h1 h2 h3 h4 hc _ _ _ ih1 ih2 =>
    exact .ro (fun _ => hF _ (by simp)) (by rw [roifyL_length]; exact h2) h3 h4 (by rw [closedL_roify]; exact hc) (ih1 fun b hb => hF b (by simp [hb])) (ih2 fun b hb => hF b (by simp [hb]))
  | ref h1 h2 h3 hz _ ih => exact .ref h1 h2 h3 hz (ih hF)
  | ro0 h1 _ ih => exact .ro0 h1 (ih hF)
  | own0 h1 _ ih => exact ro_zero h1 (ih hF)
  | ref0 h1 h2 _ ih => exact .ref0 h1 h2 (ih hF)
  | ptr h1 _ ih => exact .ptr h1 (ih hF)
  | rop h1 h4 hc h5 _ ih1 ih2 => exact .rop (fun hl => hS _ (h1 hl)) h4 hc (h5.carry (L' := L) (U' := U) (fun b hb => ⟨hS b hb, rfl⟩) (fun i hi => ⟨hi, rfl⟩) (by simp) (Grows.refl _)) (ih2 hF)
  | dead h1 _ ih => exact .dead h1 (ih hF)

end Go.Proofs.Ytacfohamlkbpjaa
