/- Steps of memory: writing into a node, a node that moves on, a node that is frozen. -/
import Derived.Test.YtacfohamlkbpjaaTb
namespace Go.Proofs.Ytacfohamlkbpjaa
open Go Go.RowKit

section
variable {k : Base} {h : Nat → Option Node} {w : World} {L : Nat → Nat × Nat} {F : Nat → List Nat} {U : Nat → Prop}

/-- The general step: what is owned behind it was owned before, or is new. -/
theorem Mem.master (m : Mem k h w L F U) {h' : Nat → Option Node} {w' : World} {L' : Nat → Nat × Nat} {F' : Nat → List Nat} {U' : Nat → Prop}
    (g : Grows w w') (ho : w'.os = w.os) (ht : w'.tape = w.tape) (hu : w'.output = w.output)
    (hown : ∀ i, ∀ b ∈ Own h' L' F' i, (∃ j, b ∈ Own h L F j) ∨ w.heap.size ≤ b)
    (nodup : ∀ i, (Own h' L' F' i).Nodup) (disj : ∀ i j, i ≠ j → ∀ b ∈ Own h' L' F' i, b ∉ Own h' L' F' j)
    (hsame : ∀ b, b < w.heap.size → (∀ j, b ∉ Own h L F j) → w'.heap[b]? = w.heap[b]?)
    (hU : ∀ i, U i → U' i ∧ L' i = L i)
    (node : Mono k h w L F U h' w' L' F' U' → ∀ id nd, h' id = some nd → U' id ∧ ∃ us, w'.rangeAt (L' id).1 (L' id).2 us ∧ Rep (SS k h' L' F' w') U' L' w' us nd.2 (F' id) ∧
      (nd.2 ≠ [] → Wr w' (L' id).1 ((L' id).2 + us.length)) ∧ (nd.1 = false → F' id = [] ∧ (nd.2 ≠ [] → SS k h' L' F' w' (L' id).1))) :
    Mem k h' w' L' F' U' ∧ Mono k h w L F U h' w' L' F' U' := by
  have mo : Mono k h w L F U h' w' L' F' U' := by
    refine ⟨fun b hb => ⟨⟨hb.1, Nat.lt_of_lt_of_le hb.2.1 g.1, fun i hc => ?_⟩, hsame b hb.2.1 hb.2.2⟩, hU, g⟩
    rcases hown i b hc with ⟨j, hj⟩ | hj
    · exact hb.2.2 j hj
    · have := hb.2.1; omega
  refine ⟨⟨m.S0lt, m.B0lt, node mo, nodup, disj, fun i b hb => ?_, fun b h1 h2 => ?_, ho.trans m.os, ht.trans m.tape, hu.trans m.output, m.grows.trans g⟩, mo⟩
  · rcases hown i b hb with ⟨j, hj⟩ | hj
    · exact m.inB j b hj
    · exact .inl (Nat.le_trans m.grows.1 hj)
  · refine (hsame b (Nat.lt_of_lt_of_le h1 m.grows.1) fun j hj => ?_).trans (m.frame b h1 h2)
    rcases m.inB j b hj with h3 | h3
    · omega
    · exact h2 h3

/-- A node that the step leaves alone. -/
theorem Mem.keep (m : Mem k h w L F U) {h' : Nat → Option Node} {w' : World} {L' : Nat → Nat × Nat} {F' : Nat → List Nat} {U' : Nat → Prop}
    (mo : Mono k h w L F U h' w' L' F' U') {id : Nat} {nd : Node} (hid : h id = some nd) (hF : F' id = F id) (hs : ∀ b ∈ Own h L F id, w'.heap[b]? = w.heap[b]?) :
    U' id ∧ ∃ us, w'.rangeAt (L' id).1 (L' id).2 us ∧ Rep (SS k h' L' F' w') U' L' w' us nd.2 (F' id) ∧
      (nd.2 ≠ [] → Wr w' (L' id).1 ((L' id).2 + us.length)) ∧ (nd.1 = false → F' id = [] ∧ (nd.2 ≠ [] → SS k h' L' F' w' (L' id).1)) := by
  obtain ⟨hU, us, h1, h2, h3, h4⟩ := m.node id nd hid
  obtain ⟨hU', hL⟩ := mo.2.1 id hU
  rw [hF, hL]
  obtain ⟨o, cs⟩ := nd
  by_cases hz : cs = []
  · subst hz
    obtain ⟨rfl, hF0⟩ := rep_nil h2
    rw [hF0]
    exact ⟨hU', [], rangeAt_nil _ _ _, .nil, fun q => absurd rfl q, fun _ => ⟨rfl, fun q => absurd rfl q⟩⟩
  have hb : ∀ b ∈ (L id).1 :: F id, w'.heap[b]? = w.heap[b]? := by
    cases o with
    | false =>
      intro b hb
      rw [(h4 rfl).1] at hb
      rcases List.mem_singleton.1 hb with rfl
      exact (mo.1 _ ((h4 rfl).2 hz)).2
    | true => intro b hb; exact hs b (by simpa [Own, hid, OB_ne hz] using hb)
  exact ⟨hU', us, rangeAt_of_block (hb _ (by simp)) h1, mo.repF h2 (fun b hm => hb b (by simp [hm])), fun hne => (h3 hne).grows mo.2.2, fun e => ⟨(h4 e).1, fun hne => (mo.1 _ ((h4 e).2 hne)).1⟩⟩

theorem own_of {h : Nat → Option Node} {L F id cs} (hid : h id = some (true, cs)) : Own h L F id = OB (L id).1 (F id) cs := by simp [Own, hid]
theorem own_ne {h : Nat → Option Node} {L F id cs} (hid : h id = some (true, cs)) (hz : cs ≠ []) : Own h L F id = (L id).1 :: F id := by rw [own_of hid, OB_ne hz]

/-- Node `id` is changed in place: only blocks of its own turn. -/
theorem Mem.change (m : Mem k h w L F U) {w' : World} {id : Nat} {cs cs' : List Cell} {G : List Nat} {us : List Value} (hid : h id = some (true, cs)) (hz : cs ≠ [])
    (g : Grows w w') (ho : w'.os = w.os) (ht : w'.tape = w.tape) (hu : w'.output = w.output)
    (hsame : ∀ b, b ∉ Own h L F id → w'.heap[b]? = w.heap[b]?) (hG : ∀ b ∈ G, b ∈ F id) (hnd : G.Nodup)
    (hr : w'.rangeAt (L id).1 (L id).2 us) (hw : Wr w' (L id).1 ((L id).2 + us.length))
    (hrep : ∀ S' : Nat → Prop, (∀ b, SS k h L F w b → S' b ∧ w'.heap[b]? = w.heap[b]?) → Rep S' U L w' us cs' G) :
    Mem k (upd h id (some (true, cs'))) w' L (upd F id G) U ∧ Mono k h w L F U (upd h id (some (true, cs'))) w' L (upd F id G) U := by
  have hO : ∀ i, ∀ b ∈ Own (upd h id (some (true, cs'))) L (upd F id G) i, b ∈ Own h L F i := by
    intro i b hb
    by_cases e : i = id
    · subst e
      rw [own_ne hid hz]
      rw [own_of (upd_same _ _ _), upd_same] at hb
      have hb := (mem_OB hb).2
      simp at hb
      rcases hb with rfl | hb
      · simp
      · simp [hG b hb]
    · simpa [Own, upd_other _ _ e] using hb
  have hnd0 : ((L id).1 :: F id).Nodup := by have := m.nodup id; rwa [own_ne hid hz] at this
  refine m.master g ho ht hu (fun i b hb => .inl ⟨i, hO i b hb⟩) (fun i => ?_) (fun i j hij b hb hc => m.disj i j hij b (hO i b hb) (hO j b hc)) (fun b _ hn => hsame b (hn id)) (fun i hi => ⟨hi, rfl⟩) (fun mo i nd hi => ?_)
  · by_cases e : i = id
    · subst e
      rw [own_of (upd_same _ _ _), upd_same]
      exact nodup_OB fun _ => List.nodup_cons.2 ⟨fun hc => (List.nodup_cons.1 hnd0).1 (hG _ hc), hnd⟩
    · have : Own (upd h id (some (true, cs'))) L (upd F id G) i = Own h L F i := by simp [Own, upd_other _ _ e]
      rw [this]; exact m.nodup i
  · by_cases e : i = id
    · subst e
      rw [upd_same] at hi
      obtain rfl := Option.some.inj hi
      exact ⟨(m.node i _ hid).1, us, hr, by rw [upd_same]; exact hrep _ mo.1, fun _ => hw, fun e => by cases e⟩
    · rw [upd_other _ _ e] at hi
      refine m.keep mo hi (upd_other _ _ e) (fun b hb => hsame b (m.disj i id e b hb))

theorem heap_setCells_ne (w : World) (g o : Nat) (vs : List Value) {i : Nat} (hne : i ≠ g) : (w.setCells g o vs).heap[i]? = w.heap[i]? := by
  induction vs generalizing o w with
  | nil => rfl
  | cons v r ih => rw [World.setCells, ih, Below.heap_setCell _ _ _ _ hne]

theorem grows_setCell (w : World) (a : Addr) (v : Value) : Grows w (w.setCell a v) := by
  refine ⟨by simp [World.setCell], fun b c e fr hb => ?_⟩
  simp only [World.setCell, Array.getElem?_modify]
  by_cases hab : a.block = b
  · rw [if_pos hab, hb]
    simp
    split <;> simp
  · rw [if_neg hab]; exact ⟨c, hb, rfl⟩

theorem grows_setCells (b : Nat) : ∀ (vs : List Value) (o : Nat) (w : World), Grows w (w.setCells b o vs)
  | [], _, w => Grows.refl w
  | v :: r, o, w => (grows_setCell w _ v).trans (grows_setCells b r (o + 1) _)

theorem setCells_os (b : Nat) : ∀ (vs : List Value) (o : Nat) (w : World), (w.setCells b o vs).os = w.os ∧ (w.setCells b o vs).tape = w.tape ∧ (w.setCells b o vs).output = w.output
  | [], _, _ => ⟨rfl, rfl, rfl⟩
  | v :: r, o, w => setCells_os b r (o + 1) (w.setCell ⟨b, o, none⟩ v)

theorem rangeAt_append {w : World} {b o : Nat} {us vs : List Value} (h1 : w.rangeAt b o us) (h2 : w.rangeAt b (o + us.length) vs) : w.rangeAt b o (us ++ vs) := by
  intro j v hv
  by_cases hj : j < us.length
  · rw [List.getElem?_append_left hj] at hv; exact h1 j v hv
  · rw [List.getElem?_append_right (by omega)] at hv
    have := h2 _ v hv
    rwa [show o + us.length + (j - us.length) = o + j by omega] at this

theorem rangeAt_left {w : World} {b o : Nat} {us vs : List Value} (h : w.rangeAt b o (us ++ vs)) : w.rangeAt b o us := by
  intro j v hv
  have hj : j < us.length := (List.getElem?_eq_some_iff.1 hv).1
  exact h j v (by rw [List.getElem?_append_left hj]; exact hv)

theorem rangeAt_right {w : World} {b o : Nat} {us vs : List Value} (h : w.rangeAt b o (us ++ vs)) : w.rangeAt b (o + us.length) vs := by
  intro j v hv
  have := h (us.length + j) v (by rw [List.getElem?_append_right (by omega)]; simpa using hv)
  rwa [← Nat.add_assoc] at this

theorem rangeAt_setCells_self {w : World} {b o : Nat} {vs : List Value} (ht : w.there b o vs.length) : (w.setCells b o vs).rangeAt b o vs :=
  World.rangeAt_setCells_same w b o vs ht

theorem rangeAt_setCells_out {w : World} {b o o' : Nat} {us vs : List Value} (h : w.rangeAt b o' us) (hd : o' + us.length ≤ o ∨ o + vs.length ≤ o') : (w.setCells b o vs).rangeAt b o' us := by
  intro j v hv
  have hj : j < us.length := (List.getElem?_eq_some_iff.1 hv).1
  rw [World.cell?_setCells_out b vs o w _ (fun _ _ => by show o' + j < o ∨ o + vs.length ≤ o' + j; omega)]
  exact h j v hv

/-- Cells of a node are written. -/
theorem Mem.write (m : Mem k h w L F U) {id : Nat} {A B C B' : List Cell} {vs : List Value} (hid : h id = some (true, A ++ B ++ C)) (hl : B'.length = B.length)
    (hr : Rep (SS k h L F w) U L w vs B' []) :
    ∃ G, Mem k (upd h id (some (true, A ++ B' ++ C))) (w.setCells (L id).1 ((L id).2 + A.length) vs) L (upd F id G) U ∧
      Mono k h w L F U (upd h id (some (true, A ++ B' ++ C))) (w.setCells (L id).1 ((L id).2 + A.length) vs) L (upd F id G) U ∧
      w.there (L id).1 ((L id).2 + A.length) vs.length := by
  by_cases hB : B = []
  · subst hB
    obtain rfl : B' = [] := by simpa using hl
    obtain ⟨rfl, _⟩ := rep_nil hr
    have e : upd h id (some (true, A ++ [] ++ C)) = h := by funext x; by_cases q : x = id <;> simp [upd, q, hid]
    have e2 : upd F id (F id) = F := by funext x; by_cases q : x = id <;> simp [upd, q]
    refine ⟨F id, ?_, ?_, fun j hj => by simp at hj⟩
    · rw [e, e2]; exact m
    · rw [e, e2]; exact Mono.refl _ _ _ _ _ _
  have hz : A ++ B ++ C ≠ [] := by simp [hB]
  obtain ⟨_, us, h1, h2, h3', _⟩ := m.node id _ hid
  have h3 := h3' hz
  simp only at h2
  obtain ⟨usAB, usC, FAB, FC, rfl, eF, rAB, rC⟩ := h2.split
  obtain ⟨usA, usB, FA, FB, rfl, rfl, rA, rB⟩ := rAB.split
  have lA := rA.length; have lB := rB.length; have lC := rC.length; have lv := hr.length
  have hth : w.there (L id).1 ((L id).2 + A.length) vs.length := h3.there (by simp; omega)
  have hnd := m.nodup id
  rw [own_ne hid hz, eF] at hnd
  have hb : (L id).1 ∉ FA ++ FB ++ FC := (List.nodup_cons.1 hnd).1
  have hnd2 := (List.nodup_cons.1 hnd).2
  have ne : ∀ b ∈ FA ++ FC, b ≠ (L id).1 := fun b hb' e => hb (by subst e; simp at hb' ⊢; rcases hb' with h | h <;> simp [h])
  have g := grows_setCells (L id).1 vs ((L id).2 + A.length) w
  have os := setCells_os (L id).1 vs ((L id).2 + A.length) w
  refine ⟨FA ++ FC, ?_, ?_, hth⟩
  all_goals
    have := m.change (w' := w.setCells (L id).1 ((L id).2 + A.length) vs) (cs' := A ++ B' ++ C) (G := FA ++ FC) (us := usA ++ vs ++ usC) hid hz g os.1 os.2.1 os.2.2
      (fun b hb' => heap_setCells_ne w _ _ _ (fun e => hb' (by rw [own_ne hid hz, e]; simp)))
      (fun b hb' => by rw [eF]; simp at hb' ⊢; rcases hb' with h | h <;> simp [h])
      (by
        rw [List.append_assoc] at hnd2
        obtain ⟨n1, n2, n3⟩ := List.nodup_append.1 hnd2
        obtain ⟨n4, n5, n6⟩ := List.nodup_append.1 n2
        exact List.nodup_append.2 ⟨n1, n5, fun a ha b hb' => n3 a ha b (by simp [hb'])⟩)
      (by
        refine rangeAt_append (rangeAt_append ?_ ?_) ?_
        · exact rangeAt_setCells_out (rangeAt_left (rangeAt_left h1)) (.inl (by omega))
        · rw [lA]; exact rangeAt_setCells_self hth
        · have := rangeAt_right h1
          refine rangeAt_setCells_out ?_ (.inr (by simp; omega))
          simp at this ⊢
          rwa [show usA.length + vs.length = usA.length + usB.length by omega])
      ((h3.grows g).mono (by simp; omega))
      (fun S' hS' => by
        have hU' : ∀ i, U i → U i ∧ L i = L i := fun i hi => ⟨hi, rfl⟩
        have := ((rA.carry hS' hU' (fun b hb' => heap_setCells_ne w _ _ _ (ne b (by simp [hb']))) g).append (hr.carry hS' hU' (by simp) g)).append
          (rC.carry hS' hU' (fun b hb' => heap_setCells_ne w _ _ _ (ne b (by simp [hb']))) g)
        simpa using this)
  · exact this.1
  · exact this.2
end

end Go.Proofs.Ytacfohamlkbpjaa
