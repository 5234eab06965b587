/- The memory of a T state beside the machine's: the invariant, and how it goes through one step of memory. -/
import Derived.Test.YtacfohamlkbpjaaTa
namespace Go.Proofs.Ytacfohamlkbpjaa
open Go Go.RowKit

def upd {α : Type} (f : Nat → α) (a : Nat) (b : α) : Nat → α := fun x => if x = a then b else f x
theorem upd_same {α : Type} (f : Nat → α) (a : Nat) (b : α) : upd f a b a = b := by simp [upd]
theorem upd_other {α : Type} (f : Nat → α) {a x : Nat} (b : α) (h : x ≠ a) : upd f a b x = f x := by simp [upd, h]

/-- What a node at `l` with these cells owns: without cells, nothing. -/
def OB (l : Nat) (G : List Nat) : List Cell → List Nat
  | [] => []
  | _ :: _ => l :: G

theorem OB_ne {l : Nat} {G : List Nat} {cs : List Cell} (h : cs ≠ []) : OB l G cs = l :: G := by cases cs with | nil => exact absurd rfl h | cons _ _ => rfl
theorem OB_nil {l : Nat} {G : List Nat} {cs : List Cell} (h : cs = []) : OB l G cs = [] := by subst h; rfl
theorem mem_OB {l : Nat} {G : List Nat} {cs : List Cell} {b : Nat} (h : b ∈ OB l G cs) : cs ≠ [] ∧ b ∈ l :: G := by
  cases cs with
  | nil => cases h
  | cons _ _ => exact ⟨by simp, h⟩
theorem nodup_OB {l : Nat} {G : List Nat} {cs : List Cell} (h : cs ≠ [] → (l :: G).Nodup) : (OB l G cs).Nodup := by
  cases cs with
  | nil => exact List.nodup_nil
  | cons _ _ => exact h (by simp)

/-- The blocks that node `id` owns: its own, and those of the slices within. -/
def Own (h : Nat → Option Node) (L : Nat → Nat × Nat) (F : Nat → List Nat) (id : Nat) : List Nat :=
  match h id with
  | some (true, cs) => OB (L id).1 (F id) cs
  | _ => []

/-- What a call starts from: the world, the blocks that stay as they are, the blocks that are handed in to be written. -/
structure Base where
  w0 : World
  S0 : Nat → Prop
  B0 : List Nat

/-- The blocks that nobody writes any more. -/
def SS (k : Base) (h : Nat → Option Node) (L : Nat → Nat × Nat) (F : Nat → List Nat) (w : World) (b : Nat) : Prop :=
  (k.S0 b ∨ b ∈ k.B0 ∨ k.w0.heap.size ≤ b) ∧ b < w.heap.size ∧ ∀ id, b ∉ Own h L F id

structure Mem (k : Base) (h : Nat → Option Node) (w : World) (L : Nat → Nat × Nat) (F : Nat → List Nat) (U : Nat → Prop) : Prop where
  S0lt : ∀ b, k.S0 b → b < k.w0.heap.size ∧ b ∉ k.B0
  B0lt : ∀ b ∈ k.B0, b < k.w0.heap.size
  node : ∀ id nd, h id = some nd → U id ∧ ∃ us, w.rangeAt (L id).1 (L id).2 us ∧ Rep (SS k h L F w) U L w us nd.2 (F id) ∧
    (nd.2 ≠ [] → Wr w (L id).1 ((L id).2 + us.length)) ∧ (nd.1 = false → F id = [] ∧ (nd.2 ≠ [] → SS k h L F w (L id).1))
  nodup : ∀ id, (Own h L F id).Nodup
  disj : ∀ i j, i ≠ j → ∀ b ∈ Own h L F i, b ∉ Own h L F j
  inB : ∀ id, ∀ b ∈ Own h L F id, k.w0.heap.size ≤ b ∨ b ∈ k.B0
  frame : ∀ b, b < k.w0.heap.size → b ∉ k.B0 → w.heap[b]? = k.w0.heap[b]?
  os : w.os = k.w0.os
  tape : w.tape = k.w0.tape
  output : w.output = k.w0.output
  grows : Grows k.w0 w

/-- Whatever stood for something before a step stands for it behind it. -/
def Mono (k : Base) (h : Nat → Option Node) (w : World) (L : Nat → Nat × Nat) (F : Nat → List Nat) (U : Nat → Prop)
    (h' : Nat → Option Node) (w' : World) (L' : Nat → Nat × Nat) (F' : Nat → List Nat) (U' : Nat → Prop) : Prop :=
  (∀ b, SS k h L F w b → SS k h' L' F' w' b ∧ w'.heap[b]? = w.heap[b]?) ∧ (∀ i, U i → U' i ∧ L' i = L i) ∧ Grows w w'

theorem Mono.refl (k : Base) (h w L F U) : Mono k h w L F U h w L F U := ⟨fun _ hb => ⟨hb, rfl⟩, fun _ hi => ⟨hi, rfl⟩, Grows.refl _⟩
theorem Mono.trans {k : Base} {h w L F U h' w' L' F' U' h'' w'' L'' F'' U''} (a : Mono k h w L F U h' w' L' F' U') (b : Mono k h' w' L' F' U' h'' w'' L'' F'' U'') :
    Mono k h w L F U h'' w'' L'' F'' U'' :=
  ⟨fun x hx => ⟨(b.1 x (a.1 x hx).1).1, (b.1 x (a.1 x hx).1).2.trans (a.1 x hx).2⟩, fun i hi => ⟨(b.2.1 i (a.2.1 i hi).1).1, (b.2.1 i (a.2.1 i hi).1).2.trans (a.2.1 i hi).2⟩, a.2.2.trans b.2.2⟩

theorem Mono.rep {k : Base} {h w L F U h' w' L' F' U'} (m : Mono k h w L F U h' w' L' F' U') {vs cs} (r : Rep (SS k h L F w) U L w vs cs []) :
    Rep (SS k h' L' F' w') U' L' w' vs cs [] := r.carry m.1 m.2.1 (by simp) m.2.2

theorem Mono.repF {k : Base} {h w L F U h' w' L' F' U'} (m : Mono k h w L F U h' w' L' F' U') {vs cs G} (r : Rep (SS k h L F w) U L w vs cs G)
    (hG : ∀ b ∈ G, w'.heap[b]? = w.heap[b]?) : Rep (SS k h' L' F' w') U' L' w' vs cs G := r.carry m.1 m.2.1 hG m.2.2

/-- How a value stands for what a slot holds. -/
def RV (S U : Nat → Prop) (L : Nat → Nat × Nat) (w : World) (x : Value) : Bool × List Cell → Prop
  | (false, l) => Rep S U L w [x] l []
  | (true, l) => ∃ vs : Array Value, x = .agg vs ∧ Rep S U L w vs.toList l []

def RTV (S U : Nat → Prop) (L : Nat → Nat × Nat) (w : World) (x : Value) : TV → Prop
  | .v b l => RV S U L w x (b, l)
  | .tup l => ∃ xs : Array Value, x = .tuple xs ∧ xs.toList.length = l.length ∧ ∀ (i : Nat) y c, xs.toList[i]? = some y → l[i]? = some c → RV S U L w y c
  | .undef => True

theorem Mono.rv {k : Base} {h w L F U h' w' L' F' U'} (m : Mono k h w L F U h' w' L' F' U') {x c} (r : RV (SS k h L F w) U L w x c) : RV (SS k h' L' F' w') U' L' w' x c := by
  obtain ⟨b, l⟩ := c
  cases b with
  | false => exact m.rep r
  | true => obtain ⟨vs, e, hr⟩ := r; exact ⟨vs, e, m.rep hr⟩

theorem Mono.rtv {k : Base} {h w L F U h' w' L' F' U'} (m : Mono k h w L F U h' w' L' F' U') {x tv} (r : RTV (SS k h L F w) U L w x tv) : RTV (SS k h' L' F' w') U' L' w' x tv := by
  cases tv with
  | v b l => exact m.rv (c := (b, l)) r
  | tup l => obtain ⟨xs, e, hl, hr⟩ := r; exact ⟨xs, e, hl, fun i y c h1 h2 => m.rv (hr i y c h1 h2)⟩
  | undef => trivial

theorem RV.cells {S U : Nat → Prop} {L w x b l} (r : RV S U L w x (b, l)) : Rep S U L w x.cells.toList l [] := by
  cases b with
  | false =>
    have h1 := Rep.one (show Rep S U L w [x] l [] from r) x (by simp)
    have : x.cells.toList = [x] := by cases x <;> simp_all [Value.cells, Value.oneCell']
    rw [this]; exact r
  | true => obtain ⟨vs, e, hr⟩ := r; subst e; exact hr

/-! ### One step of memory -/
section
variable {k : Base} {h : Nat → Option Node} {w : World} {L : Nat → Nat × Nat} {F : Nat → List Nat} {U : Nat → Prop}

theorem Own.lt (m : Mem k h w L F U) {id b : Nat} (hb : b ∈ Own h L F id) : b < w.heap.size := by
  unfold Own at hb
  split at hb
  · rename_i cs hh
    obtain ⟨_, us, _, hr, hw, _⟩ := m.node id _ hh
    obtain ⟨hne, hb⟩ := mem_OB hb
    rcases List.mem_cons.1 hb with rfl | hb
    · exact (hw hne).lt
    · exact hr.lt b hb
  · cases hb

/-- The heap as it was, block by block. -/
theorem Mem.same (m : Mem k h w L F U) {w' : World} (hh : w'.heap = w.heap) (ho : w'.os = w.os) (ht : w'.tape = w.tape) (hu : w'.output = w.output) :
    Mem k h w' L F U ∧ Mono k h w L F U h w' L F U := by
  have g : Grows w w' := ⟨by rw [hh]; exact Nat.le_refl _, fun b c e fr hb => ⟨c, by rw [hh]; exact hb, rfl⟩⟩
  have mo : Mono k h w L F U h w' L F U := ⟨fun b hb => ⟨⟨hb.1, by rw [hh]; exact hb.2.1, hb.2.2⟩, by rw [hh]⟩, fun i hi => ⟨hi, rfl⟩, g⟩
  refine ⟨⟨m.S0lt, m.B0lt, fun id nd hnd => ?_, m.nodup, m.disj, m.inB, fun b h1 h2 => by rw [hh]; exact m.frame b h1 h2, ho.trans m.os, ht.trans m.tape, hu.trans m.output, m.grows.trans g⟩, mo⟩
  obtain ⟨hU, us, h1, h2, h3, h4⟩ := m.node id nd hnd
  exact ⟨hU, us, rangeAt_of_block (by rw [hh]) h1, mo.repF h2 (fun b _ => by rw [hh]), fun hne => (h3 hne).grows g, fun e => ⟨(h4 e).1, fun hne => (mo.1 _ ((h4 e).2 hne)).1⟩⟩

theorem heap_alloc_lt (w : World) (o : Obj) {b : Nat} (hb : b < w.heap.size) : (w.alloc o).heap[b]? = w.heap[b]? := Below.heap_alloc w o b hb

theorem grows_alloc (w : World) (o : Obj) : Grows w (w.alloc o) :=
  ⟨by simp, fun b c e fr hb => ⟨c, by rw [heap_alloc_lt _ _ (Array.getElem?_eq_some_iff.1 hb).1]; exact hb, rfl⟩⟩

theorem alloc_self (w : World) (o : Obj) : (w.alloc o).heap[w.heap.size]? = some o := by
  show (w.heap.push o)[w.heap.size]? = _
  simp

theorem wr_alloc (w : World) (c : Array Value) (e : TypeId) : Wr (w.alloc (.cells c e)) w.heap.size c.size :=
  ⟨c, e, 0, 0, alloc_self w _, Nat.le_refl _, by omega⟩

theorem rangeAt_alloc (w : World) (c : Array Value) (e : TypeId) (us : List Value) (o : Nat) (hus : ∀ (j : Nat) (v : Value), us[j]? = some v → c.toList[o + j]? = some v) : (w.alloc (.cells c e)).rangeAt w.heap.size o us := by
  intro j v hv
  have := hus j v hv
  simp only [World.cell?, alloc_self]
  simpa using this

/-- A new node, in a new block, or in a block that was nobody's: the general step. -/
theorem Mem.extend (m : Mem k h w L F U) {w' : World} {nid : Nat} (hn : h nid = none) (hU : ¬ U nid) {loc : Nat × Nat} {cells : List Cell} {G : List Nat} {us : List Value}
    (g : Grows w w') (hsame : ∀ b, b < w.heap.size → b ∉ OB loc.1 G cells → w'.heap[b]? = w.heap[b]?)
    (hout : ∀ id, ∀ b ∈ Own h L F id, b ∉ OB loc.1 G cells) (hS : ∀ b ∈ OB loc.1 G cells, ¬ SS k h L F w b) (hB : ∀ b ∈ OB loc.1 G cells, k.w0.heap.size ≤ b ∨ b ∈ k.B0)
    (hnd : (OB loc.1 G cells).Nodup) (hr : w'.rangeAt loc.1 loc.2 us)
    (hrep : ∀ (S' U' : Nat → Prop) (L' : Nat → Nat × Nat), (∀ b, SS k h L F w b → S' b ∧ w'.heap[b]? = w.heap[b]?) → (∀ i, U i → U' i ∧ L' i = L i) → Rep S' U' L' w' us cells G)
    (hw : cells ≠ [] → Wr w' loc.1 (loc.2 + us.length)) (ho : w'.os = w.os) (ht : w'.tape = w.tape) (hu : w'.output = w.output) :
    Mem k (upd h nid (some (true, cells))) w' (upd L nid loc) (upd F nid G) (fun i => U i ∨ i = nid) ∧
    Mono k h w L F U (upd h nid (some (true, cells))) w' (upd L nid loc) (upd F nid G) (fun i => U i ∨ i = nid) := by
  have hne : ∀ id, h id ≠ none → id ≠ nid := fun id h1 h2 => h1 (h2 ▸ hn)
  have hOwn : ∀ id, id ≠ nid → Own (upd h nid (some (true, cells))) (upd L nid loc) (upd F nid G) id = Own h L F id := fun id hid => by simp [Own, upd_other _ _ hid]
  have hOwnN : Own (upd h nid (some (true, cells))) (upd L nid loc) (upd F nid G) nid = OB loc.1 G cells := by simp [Own, upd_same]
  have hOwn0 : Own h L F nid = [] := by simp [Own, hn]
  have hSS : ∀ b, SS k h L F w b → SS k (upd h nid (some (true, cells))) (upd L nid loc) (upd F nid G) w' b ∧ w'.heap[b]? = w.heap[b]? := by
    intro b hb
    have hb' : b ∉ OB loc.1 G cells := fun hc => hS b hc hb
    refine ⟨⟨hb.1, Nat.lt_of_lt_of_le hb.2.1 g.1, fun id => ?_⟩, hsame b hb.2.1 hb'⟩
    by_cases hid : id = nid
    · subst hid; rw [hOwnN]; exact hb'
    · rw [hOwn id hid]; exact hb.2.2 id
  have hUU : ∀ i, U i → (U i ∨ i = nid) ∧ upd L nid loc i = L i := fun i hi => ⟨.inl hi, upd_other _ _ (fun e => hU (e ▸ hi))⟩
  have mo : Mono k h w L F U (upd h nid (some (true, cells))) w' (upd L nid loc) (upd F nid G) (fun i => U i ∨ i = nid) := ⟨hSS, hUU, g⟩
  refine ⟨⟨m.S0lt, m.B0lt, fun id nd hid => ?_, fun id => ?_, fun i j hij b hb => ?_, fun id b hb => ?_, fun b h1 h2 => ?_, ho.trans m.os, ht.trans m.tape, hu.trans m.output, m.grows.trans g⟩, mo⟩
  · by_cases e : id = nid
    · subst e
      rw [upd_same] at hid
      obtain rfl := Option.some.inj hid
      exact ⟨.inr rfl, us, by rw [upd_same]; exact hr, by rw [upd_same]; exact hrep _ _ _ hSS hUU, by rw [upd_same]; exact hw, fun e => by cases e⟩
    · rw [upd_other _ _ e] at hid
      obtain ⟨hU', vs, h1, h2, h3, h4⟩ := m.node id nd hid
      obtain ⟨o, cs⟩ := nd
      by_cases hz : cs = []
      · subst hz
        obtain ⟨rfl, hF⟩ := rep_nil h2
        rw [upd_other _ _ e, upd_other _ _ e, hF]
        exact ⟨.inl hU', [], rangeAt_nil _ _ _, .nil, fun q => absurd rfl q, fun _ => ⟨rfl, fun q => absurd rfl q⟩⟩
      have hblk : ∀ b ∈ F id, w'.heap[b]? = w.heap[b]? := by
        intro b hb
        cases o with
        | false => rw [(h4 rfl).1] at hb; cases hb
        | true =>
          have : b ∈ Own h L F id := by simp [Own, hid, OB_ne hz, hb]
          exact hsame b (Own.lt m this) (hout id b this)
      have hL : w'.heap[(L id).1]? = w.heap[(L id).1]? := by
        cases o with
        | false => exact (hSS _ ((h4 rfl).2 hz)).2
        | true =>
          have : (L id).1 ∈ Own h L F id := by simp [Own, hid, OB_ne hz]
          exact hsame _ (Own.lt m this) (hout id _ this)
      rw [upd_other _ _ e, upd_other _ _ e]
      exact ⟨.inl hU', vs, rangeAt_of_block hL h1, mo.repF h2 hblk, fun hne => (h3 hne).grows g, fun e' => ⟨(h4 e').1, fun hne => (hSS _ ((h4 e').2 hne)).1⟩⟩
  · by_cases e : id = nid
    · subst e; rw [hOwnN]; exact hnd
    · rw [hOwn id e]; exact m.nodup id
  · by_cases e : i = nid
    · subst e
      rw [hOwnN] at hb
      rw [hOwn j (fun e => hij e.symm)]
      exact fun hc => hout j b hc hb
    · rw [hOwn i e] at hb
      by_cases e' : j = nid
      · subst e'; rw [hOwnN]; exact hout i b hb
      · rw [hOwn j e']; exact m.disj i j hij b hb
  · by_cases e : id = nid
    · subst e; rw [hOwnN] at hb; exact hB b hb
    · rw [hOwn id e] at hb; exact m.inB id b hb
  · have hb : b ∉ OB loc.1 G cells := fun hc => by
      rcases hB b hc with h3 | h3
      · omega
      · exact h2 h3
    exact (hsame b (Nat.lt_of_lt_of_le h1 m.grows.1) hb).trans (m.frame b h1 h2)

/-- A node without cells, out of nothing. -/
theorem Mem.virt (m : Mem k h w L F U) {nid : Nat} (hn : h nid = none) (hU : ¬ U nid) :
    Mem k (upd h nid (some (true, []))) w (upd L nid (0, 0)) (upd F nid []) (fun i => U i ∨ i = nid) ∧
    Mono k h w L F U (upd h nid (some (true, []))) w (upd L nid (0, 0)) (upd F nid []) (fun i => U i ∨ i = nid) :=
  m.extend hn hU (us := []) (Grows.refl w) (fun _ _ _ => rfl) (fun _ _ _ h => by cases h) (fun _ h => by cases h) (fun _ h => by cases h) List.nodup_nil (rangeAt_nil _ _ _) (fun _ _ _ _ _ => .nil) (fun q => absurd rfl q) rfl rfl rfl

/-- A new block of cells, a node of its own. -/
theorem Mem.alloc (m : Mem k h w L F U) {nid : Nat} (hn : h nid = none) (hU : ¬ U nid) {c : Array Value} (e : TypeId) {us : List Value} {cells : List Cell} (hr : Rep (SS k h L F w) U L w us cells [])
    (hus : ∀ (j : Nat) (v : Value), us[j]? = some v → c.toList[j]? = some v) (hle : us.length ≤ c.size) :
    Mem k (upd h nid (some (true, cells))) (w.alloc (.cells c e)) (upd L nid (w.heap.size, 0)) (upd F nid []) (fun i => U i ∨ i = nid) ∧
    Mono k h w L F U (upd h nid (some (true, cells))) (w.alloc (.cells c e)) (upd L nid (w.heap.size, 0)) (upd F nid []) (fun i => U i ∨ i = nid) := by
  refine m.extend hn hU (us := us) (grows_alloc w _) (fun b hb _ => heap_alloc_lt w _ hb) (fun id b hb hc => ?_) (fun b hb hc => ?_) (fun b hb => ?_) (nodup_OB fun _ => by simp) (rangeAt_alloc w c e us 0 (by simpa using hus))
    (fun S' U' L' h1 h2 => hr.carry (fun b hb => ⟨(h1 b hb).1, heap_alloc_lt w _ hb.2.1⟩) h2 (by simp) (grows_alloc w _)) (fun _ => (wr_alloc w c e).mono (by simpa using hle)) rfl rfl rfl
  · have := Own.lt m hb; have hc := (mem_OB hc).2; simp at hc; omega
  · have := hc.2.1; have hb := (mem_OB hb).2; simp at hb; omega
  · have hb := (mem_OB hb).2; simp at hb; subst hb; exact .inl m.grows.1

/-- A node goes. -/
theorem Mem.gone (m : Mem k h w L F U) (id : Nat) : Mem k (upd h id none) w L F U ∧ Mono k h w L F U (upd h id none) w L F U := by
  have hOwn : ∀ i b, b ∈ Own (upd h id none) L F i → i ≠ id ∧ b ∈ Own h L F i := by
    intro i b hb
    by_cases e : i = id
    · subst e; simp [Own, upd_same] at hb
    · refine ⟨e, ?_⟩; simpa [Own, upd_other _ _ e] using hb
  have mo : Mono k h w L F U (upd h id none) w L F U := ⟨fun b hb => ⟨⟨hb.1, hb.2.1, fun i hc => hb.2.2 i (hOwn i b hc).2⟩, rfl⟩, fun i hi => ⟨hi, rfl⟩, Grows.refl _⟩
  refine ⟨⟨m.S0lt, m.B0lt, fun i nd hi => ?_, fun i => ?_, fun i j hij b hb hc => m.disj i j hij b (hOwn i b hb).2 (hOwn j b hc).2, fun i b hb => m.inB i b (hOwn i b hb).2, m.frame, m.os, m.tape, m.output, m.grows⟩, mo⟩
  · have e : i ≠ id := fun e => by subst e; simp [upd_same] at hi
    rw [upd_other _ _ e] at hi
    obtain ⟨hU, us, h1, h2, h3, h4⟩ := m.node i nd hi
    exact ⟨hU, us, h1, mo.repF h2 (fun _ _ => rfl), h3, fun e' => ⟨(h4 e').1, fun hne => (mo.1 _ ((h4 e').2 hne)).1⟩⟩
  · by_cases e : i = id
    · subst e; simp [Own, upd_same]
    · have : Own (upd h id none) L F i = Own h L F i := by simp [Own, upd_other _ _ e]
      rw [this]; exact m.nodup i
end

end Go.Proofs.Ytacfohamlkbpjaa
