/- Steps of memory: append (in place or anew), parts that are told apart or put together, freezing. -/
import Derived.Test.YtacfohamlkbpjaaTc
namespace Go.Proofs.Ytacfohamlkbpjaa
open Go Go.RowKit

section
variable {k : Base} {h : Nat → Option Node} {w : World} {L : Nat → Nat × Nat} {F : Nat → List Nat} {U : Nat → Prop}

/-- Node `id` goes, and what it had, or some of it, is in node `nid`, in its old block or a new one. -/
theorem Mem.moved (m : Mem k h w L F U) {w' : World} {id nid : Nat} {cs cs' : List Cell} {G : List Nat} {us : List Value} {loc : Nat × Nat}
    (hid : h id = some (true, cs)) (hn : h nid = none) (hU : ¬ U nid)
    (g : Grows w w') (ho : w'.os = w.os) (ht : w'.tape = w.tape) (hu : w'.output = w.output)
    (hsame : ∀ b, b < w.heap.size → b ∉ Own h L F id → w'.heap[b]? = w.heap[b]?) (hG : ∀ b ∈ G, b ∈ F id) (hnd : G.Nodup) (hloc : (cs ≠ [] ∧ loc.1 = (L id).1) ∨ w.heap.size ≤ loc.1 ∨ cs' = [])
    (hr : w'.rangeAt loc.1 loc.2 us) (hw : cs' ≠ [] → Wr w' loc.1 (loc.2 + us.length))
    (hrep : ∀ (S' U' : Nat → Prop) (L' : Nat → Nat × Nat), (∀ b, SS k h L F w b → S' b ∧ w'.heap[b]? = w.heap[b]?) → (∀ i, U i → U' i ∧ L' i = L i) → Rep S' U' L' w' us cs' G) :
    Mem k (upd (upd h id none) nid (some (true, cs'))) w' (upd L nid loc) (upd F nid G) (fun i => U i ∨ i = nid) ∧
    Mono k h w L F U (upd (upd h id none) nid (some (true, cs'))) w' (upd L nid loc) (upd F nid G) (fun i => U i ∨ i = nid) := by
  have hne : id ≠ nid := fun e => by rw [e, hn] at hid; cases hid
  have ON : Own (upd (upd h id none) nid (some (true, cs'))) (upd L nid loc) (upd F nid G) nid = OB loc.1 G cs' := by simp [Own, upd_same]
  have OI : Own (upd (upd h id none) nid (some (true, cs'))) (upd L nid loc) (upd F nid G) id = [] := by simp [Own, upd_other _ _ hne, upd_same]
  have OO : ∀ i, i ≠ nid → i ≠ id → Own (upd (upd h id none) nid (some (true, cs'))) (upd L nid loc) (upd F nid G) i = Own h L F i := fun i e1 e2 => by
    simp [Own, upd_other _ _ e1, upd_other _ _ e2]
  have hF0 : cs = [] → F id = [] := fun e => by
    obtain ⟨_, us0, _, h2, _⟩ := m.node id _ hid
    subst e; exact (rep_nil h2).2
  have hN : ∀ b ∈ OB loc.1 G cs', b ∈ Own h L F id ∨ w.heap.size ≤ b := by
    intro b hb
    obtain ⟨hz', hb⟩ := mem_OB hb
    rcases List.mem_cons.1 hb with rfl | hb
    · rcases hloc with ⟨hz, e⟩ | e | e
      · left; rw [own_ne hid hz, e]; simp
      · exact .inr e
      · exact absurd e hz'
    · by_cases hz : cs = []
      · have := hG b hb; rw [hF0 hz] at this; cases this
      · exact .inl (by rw [own_ne hid hz]; simp [hG b hb])
  have hlt : ∀ i, ∀ b ∈ Own h L F i, b < w.heap.size := fun i b hb => Own.lt m hb
  refine m.master g ho ht hu (fun i b hb => ?_) (fun i => ?_) (fun i j hij b hb hc => ?_) (fun b hb hn => hsame b hb (hn id)) (fun i hi => ⟨.inl hi, upd_other _ _ (fun e => hU (e ▸ hi))⟩) (fun mo i nd hi => ?_)
  · by_cases e1 : i = nid
    · subst e1; rw [ON] at hb
      rcases hN b hb with h1 | h1
      · exact .inl ⟨id, h1⟩
      · exact .inr h1
    · by_cases e2 : i = id
      · subst e2; rw [OI] at hb; cases hb
      · rw [OO i e1 e2] at hb; exact .inl ⟨i, hb⟩
  · by_cases e1 : i = nid
    · subst e1; rw [ON]
      refine nodup_OB fun hz' => List.nodup_cons.2 ⟨fun hc => ?_, hnd⟩
      have hz : cs ≠ [] := fun e => by have := hG _ hc; rw [hF0 e] at this; cases this
      have hnd0 : ((L id).1 :: F id).Nodup := by have := m.nodup id; rwa [own_ne hid hz] at this
      rcases hloc with ⟨_, e⟩ | e | e
      · exact (List.nodup_cons.1 hnd0).1 (by rw [← e]; exact hG _ hc)
      · have := hlt id loc.1 (by rw [own_ne hid hz]; simp [hG _ hc]); omega
      · exact absurd e hz'
    · by_cases e2 : i = id
      · subst e2; rw [OI]; simp
      · rw [OO i e1 e2]; exact m.nodup i
  · have key : ∀ j, j ≠ nid → j ≠ id → ∀ b ∈ Own h L F j, b ∉ OB loc.1 G cs' := fun j _ e2 b hb hc => by
      rcases hN b hc with h1 | h1
      · exact m.disj j id e2 b hb h1
      · have := hlt j b hb; omega
    by_cases e1 : i = nid
    · subst e1; rw [ON] at hb
      have e3 : j ≠ i := fun e => hij e.symm
      by_cases e2 : j = id
      · subst e2; rw [OI] at hc; cases hc
      · rw [OO j e3 e2] at hc; exact key j e3 e2 b hc hb
    · by_cases e2 : i = id
      · subst e2; rw [OI] at hb; cases hb
      · rw [OO i e1 e2] at hb
        by_cases e3 : j = nid
        · subst e3; rw [ON] at hc; exact key i e1 e2 b hb hc
        · by_cases e4 : j = id
          · subst e4; rw [OI] at hc; cases hc
          · rw [OO j e3 e4] at hc; exact m.disj i j hij b hb hc
  · by_cases e1 : i = nid
    · subst e1
      rw [upd_same] at hi
      obtain rfl := Option.some.inj hi
      exact ⟨.inr rfl, us, by rw [upd_same]; exact hr, by rw [upd_same]; exact hrep _ _ _ mo.1 mo.2.1, by rw [upd_same]; exact hw, fun e => by cases e⟩
    · by_cases e2 : i = id
      · subst e2; rw [upd_other _ _ e1, upd_same] at hi; cases hi
      · rw [upd_other _ _ e1, upd_other _ _ e2] at hi
        exact m.keep mo hi (upd_other _ _ e1) (fun b hb => hsame b (hlt i b hb) (m.disj i id e2 b hb))

/-- `append` to a slice of a node, where there is room (or nothing is put there). -/
theorem Mem.appendIn (m : Mem k h w L F U) {id nid : Nat} {A B C N : List Cell} {vs : List Value} (hid : h id = some (true, A ++ B ++ C)) (hn : h nid = none) (hU : ¬ U nid)
    (hr : Rep (SS k h L F w) U L w vs N []) {m' : Nat} (hB : B ≠ []) (hW : Wr w (L id).1 m') (hm : (L id).2 + A.length + B.length + vs.length ≤ m') :
    ∃ G, Mem k (upd (upd h id none) nid (some (true, B ++ N))) (w.setCells (L id).1 ((L id).2 + A.length + B.length) vs) (upd L nid ((L id).1, (L id).2 + A.length)) (upd F nid G) (fun i => U i ∨ i = nid) ∧
      Mono k h w L F U (upd (upd h id none) nid (some (true, B ++ N))) (w.setCells (L id).1 ((L id).2 + A.length + B.length) vs) (upd L nid ((L id).1, (L id).2 + A.length)) (upd F nid G) (fun i => U i ∨ i = nid) ∧
      w.there (L id).1 ((L id).2 + A.length + B.length) vs.length := by
  have hz : A ++ B ++ C ≠ [] := by simp [hB]
  obtain ⟨_, us, h1, h2, h3', _⟩ := m.node id _ hid
  have h3 := h3' hz
  simp only at h2
  obtain ⟨usAB, usC, FAB, FC, rfl, eF, rAB, rC⟩ := h2.split
  obtain ⟨usA, usB, FA, FB, rfl, rfl, rA, rB⟩ := rAB.split
  have lA := rA.length; have lB := rB.length; have lC := rC.length; have lv := hr.length
  have hth : w.there (L id).1 ((L id).2 + A.length + B.length) vs.length := hW.there hm
  have hnd := m.nodup id
  rw [own_ne hid hz, eF] at hnd
  have hb : (L id).1 ∉ FA ++ FB ++ FC := (List.nodup_cons.1 hnd).1
  have hnd2 := (List.nodup_cons.1 hnd).2
  have g := grows_setCells (L id).1 vs ((L id).2 + A.length + B.length) w
  have os := setCells_os (L id).1 vs ((L id).2 + A.length + B.length) w
  have := m.moved (w' := w.setCells (L id).1 ((L id).2 + A.length + B.length) vs) (cs' := B ++ N) (G := FB) (us := usB ++ vs) (loc := ((L id).1, (L id).2 + A.length)) hid hn hU g os.1 os.2.1 os.2.2
    (fun b _ hb' => heap_setCells_ne w _ _ _ (fun e => hb' (by rw [own_ne hid hz, e]; simp)))
    (fun b hb' => by rw [eF]; simp [hb'])
    (by
      obtain ⟨n1, _, _⟩ := List.nodup_append.1 hnd2
      exact (List.nodup_append.1 n1).2.1)
    (.inl ⟨hz, rfl⟩)
    (by
      refine rangeAt_append ?_ ?_
      · refine rangeAt_setCells_out ?_ (.inl (by simp; omega))
        have := rangeAt_right (rangeAt_left h1)
        rwa [lA] at this
      · have := rangeAt_setCells_self hth
        simpa [lB] using this)
    (fun _ => (hW.grows g).mono (by simp; omega))
    (fun S' U' L' hS' hU' => by
      have := (rB.carry hS' hU' (fun b hb' => heap_setCells_ne w _ _ _ (fun e => hb (by subst e; simp [hb']))) g).append (hr.carry hS' hU' (by simp) g)
      simpa using this)
  exact ⟨FB, this.1, this.2, hth⟩

/-- A node goes, another one without cells comes: nothing turns. -/
theorem Mem.swap0 (m : Mem k h w L F U) {id nid : Nat} {cs : List Cell} (hid : h id = some (true, cs)) (hn : h nid = none) (hU : ¬ U nid) :
    ∃ F', Mem k (upd (upd h id none) nid (some (true, []))) w (upd L nid (0, 0)) F' (fun i => U i ∨ i = nid) ∧
      Mono k h w L F U (upd (upd h id none) nid (some (true, []))) w (upd L nid (0, 0)) F' (fun i => U i ∨ i = nid) := by
  have := m.moved (w' := w) (cs' := []) (G := []) (us := []) (loc := (0, 0)) hid hn hU (Grows.refl w) rfl rfl rfl (fun _ _ _ => rfl) (fun _ hb => by cases hb) List.nodup_nil (.inr (.inr rfl)) (rangeAt_nil _ _ _) (fun q => absurd rfl q)
    (fun _ _ _ _ _ => .nil)
  exact ⟨_, this.1, this.2⟩

/-- .. and where there is none: a new block. -/
theorem Mem.appendNew (m : Mem k h w L F U) {id nid : Nat} {A B C N : List Cell} {vs rest : List Value} (e : TypeId) (hid : h id = some (true, A ++ B ++ C)) (hn : h nid = none) (hU : ¬ U nid)
    (hr : Rep (SS k h L F w) U L w vs N []) :
    ∃ G olds, w.rangeAt (L id).1 ((L id).2 + A.length) olds ∧ olds.length = B.length ∧
      ∀ c : Array Value, c.toList = olds ++ vs ++ rest →
      Mem k (upd (upd h id none) nid (some (true, B ++ N))) (w.alloc (.cells c e)) (upd L nid (w.heap.size, 0)) (upd F nid G) (fun i => U i ∨ i = nid) ∧
      Mono k h w L F U (upd (upd h id none) nid (some (true, B ++ N))) (w.alloc (.cells c e)) (upd L nid (w.heap.size, 0)) (upd F nid G) (fun i => U i ∨ i = nid) := by
  obtain ⟨_, us, h1, h2, h3, _⟩ := m.node id _ hid
  simp only at h2
  obtain ⟨usAB, usC, FAB, FC, rfl, eF, rAB, rC⟩ := h2.split
  obtain ⟨usA, usB, FA, FB, rfl, rfl, rA, rB⟩ := rAB.split
  have lA := rA.length; have lB := rB.length; have lv := hr.length
  have hndB : FB.Nodup := by
    by_cases hz : A ++ B ++ C = []
    · obtain ⟨rfl, rfl, rfl⟩ : A = [] ∧ B = [] ∧ C = [] := by simpa using hz
      rw [(rep_nil rB).2]; exact List.nodup_nil
    · have hnd := m.nodup id
      rw [own_ne hid hz, eF] at hnd
      have hnd2 := (List.nodup_cons.1 hnd).2
      obtain ⟨n1, _, _⟩ := List.nodup_append.1 hnd2
      exact (List.nodup_append.1 n1).2.1
  refine ⟨FB, usB, ?_, lB, fun c hc => ?_⟩
  · have := rangeAt_right (rangeAt_left h1); rwa [lA] at this
  · have g := grows_alloc w (.cells c e)
    have hF : ∀ b ∈ FB, (w.alloc (.cells c e)).heap[b]? = w.heap[b]? := fun b hb => heap_alloc_lt w _ (h2.lt b (by rw [eF]; simp [hb]))
    exact m.moved (w' := w.alloc (.cells c e)) (cs' := B ++ N) (G := FB) (us := usB ++ vs) (loc := (w.heap.size, 0)) hid hn hU g rfl rfl rfl
      (fun b hb _ => heap_alloc_lt w _ hb)
      (fun b hb' => by rw [eF]; simp [hb'])
      hndB
      (.inr (.inl (Nat.le_refl _)))
      (rangeAt_alloc w c e (usB ++ vs) 0 (fun j v hv => by
        rw [hc, Nat.zero_add, List.getElem?_append_left (List.getElem?_eq_some_iff.1 hv).1]; exact hv))
      (fun _ => (wr_alloc w c e).mono (by
        have : c.size = (usB ++ vs ++ rest).length := by rw [← hc]; simp
        simp at this ⊢; omega))
      (fun S' U' L' hS' hU' => by
        have := (rB.carry hS' hU' hF g).append (hr.carry hS' hU' (by simp) g)
        simpa using this)
end

end Go.Proofs.Ytacfohamlkbpjaa
