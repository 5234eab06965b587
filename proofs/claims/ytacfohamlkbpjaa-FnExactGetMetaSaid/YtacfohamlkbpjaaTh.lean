/- One operation, part 2: new memory, stores, literals, append. -/
import Derived.Test.YtacfohamlkbpjaaTg
import Derived.Laws.StructEq
import Derived.Laws.MakeOwn
import Derived.Lib.ConvBytes
namespace Go.Proofs.Ytacfohamlkbpjaa
open Go Go.RowKit

section
variable {k : Base} {h : Nat → Option Node} {w : World} {L : Nat → Nat × Nat} {F : Nat → List Nat} {U : Nat → Prop} {nid : Nat} {P : Program}

theorem ups_one (h : Nat → Option Node) (i : Nat) (n : Option Node) : ups h [(i, n)] = upd h i n := rfl
theorem ups_two (h : Nat → Option Node) (i j : Nat) (n n' : Option Node) : ups h [(i, n), (j, n')] = upd (upd h i n) j n' := rfl

theorem snd_new_ptr (m : Mem k h w L F U) (hn : h nid = none) (hU : ¬ U nid) {c : Array Value} {e : TypeId} {cells : List Cell} (hr : Rep (SS k h L F w) U L w c.toList cells []) {r : Result Next}
    (hrun : r = .ok (.value (.pointer (some ⟨w.heap.size, 0, none⟩))) (w.alloc (.cells c e))) : Snd k h w L F U nid r (.v false [.ptr nid 0]) [(nid, some (true, cells))] := by
  obtain ⟨m', mo⟩ := m.alloc hn hU e hr (fun _ _ hv => hv) (by simp)
  refine ⟨_, _, _, _, _, hrun, .inl ⟨_, rfl, ?_⟩, m', mo, fun i hi => hi.imp (fun x => x) (fun e => by simp [e])⟩
  have := @Rep.ptr (SS k (ups h [(nid, some (true, cells))]) (upd L nid (w.heap.size, 0)) (upd F nid []) (w.alloc (.cells c e))) (fun i => U i ∨ i = nid) (upd L nid (w.heap.size, 0)) (w.alloc (.cells c e)) nid 0 [] [] [] (.inr rfl) .nil
  rw [upd_same] at this
  exact this

theorem snd_new_ref (m : Mem k h w L F U) (hn : h nid = none) (hU : ¬ U nid) {c : Array Value} {e : TypeId} {us : List Value} {cells : List Cell} {n s cap : Nat} (hr : Rep (SS k h L F w) U L w us cells [])
    (hus : ∀ (j : Nat) (v : Value), us[j]? = some v → c.toList[j]? = some v) (hle : us.length ≤ c.size) (hcap : cap * s ≤ c.size) (hnc : n ≤ cap) (h0 : n = 0 → cap = 0) {r : Result Next}
    (hrun : r = .ok (.value (.slice (some ⟨w.heap.size, 0, none⟩) n cap)) (w.alloc (.cells c e))) : Snd k h w L F U nid r (.v false [.ref nid 0 n s]) [(nid, some (true, cells))] := by
  obtain ⟨m', mo⟩ := m.alloc hn hU e hr hus hle
  refine ⟨_, _, _, _, _, hrun, .inl ⟨_, rfl, ?_⟩, m', mo, fun i hi => hi.imp (fun x => x) (fun e => by simp [e])⟩
  by_cases hz : n = 0
  · subst hz
    obtain rfl := h0 rfl
    exact .ref0 (.inr rfl) (.inr ⟨_, _, rfl⟩) .nil
  have := @Rep.ref (SS k (ups h [(nid, some (true, cells))]) (upd L nid (w.heap.size, 0)) (upd F nid []) (w.alloc (.cells c e))) (fun i => U i ∨ i = nid) (upd L nid (w.heap.size, 0)) (w.alloc (.cells c e)) nid 0 n s cap [] [] [] (.inr rfl)
    (by rw [upd_same]; exact (wr_alloc w c e).mono (by simpa using hcap)) hnc hz .nil
  rw [upd_same] at this
  exact this

/-- A step behind a draw. -/
theorem Snd.drew (m : Mem k h w L F U) {r : Result Next} {tv l} (hs : ∀ (_ : Mem k h w.drew L F U), Mono k h w L F U h w.drew L F U → Snd k h w.drew L F U nid r tv l) : Snd k h w L F U nid r tv l := by
  obtain ⟨m', mo⟩ := m.same (w' := w.drew) rfl rfl rfl rfl
  obtain ⟨nx, w', L', F', U', h1, h2, h3, h4, h5⟩ := hs m' mo
  exact ⟨nx, w', L', F', U', h1, h2, h3, mo.trans h4, h5⟩

theorem zeroT_some {t : TypeId} {z : List Cell} (hz : zeroT P t = some z) : ∃ i v, P.info? t = some i ∧ i.zero = some v ∧ v.cells.size = i.size ∧ z = v.cells.toList.map ofV ∧ ∀ x ∈ v.cells.toList, x.oneCell' = true := by
  unfold zeroT at hz
  split at hz
  · rename_i i hi
    split at hz
    · rename_i v hv
      split at hz
      · rename_i hc
        obtain rfl := Option.some.inj hz
        exact ⟨i, v, hi, hv, hc.1, rfl, List.all_eq_true.1 hc.2⟩
      · cases hz
    · cases hz
  · cases hz

theorem snd_alloc (m : Mem k h w L F U) (hn : h nid = none) (hU : ¬ U nid) {t : TypeId} {z : List Cell} (hz : zeroT P t = some z) :
    Snd k h w L F U nid ((do pure (Next.value (← Instr.alloc t true (.tuple #[]))) : Sem Next).run P w) (.v false [.ptr nid 0]) [(nid, some (true, z))] := by
  obtain ⟨i, v, hi, hv, hs, rfl, h1⟩ := zeroT_some hz
  refine snd_new_ptr m hn hU (c := v.cells) (e := t) (rep_ofV h1) ?_
  simp [Instr.alloc, zeroValue, typeInfo, hi, hv, newVar, newRow]

theorem snd_box (m : Mem k h w L F U) (hn : h nid = none) (hU : ¬ U nid) {t : TypeId} {x : Value} {b : Bool} {l : List Cell} (hx : RTV (SS k h L F w) U L w x (.v b l)) :
    Snd k h w L F U nid ((do pure (Next.value (← Instr.box t x)) : Sem Next).run P w) (.v false [.ptr nid 0]) [(nid, some (true, l))] := by
  refine snd_new_ptr m hn hU (c := x.cells) (e := t) (RV.cells (rtv_v hx)) ?_
  simp [Instr.box, newVar, newRow]

theorem snd_store (m : Mem k h w L F U) {t : TypeId} {a x : Value} {b : Bool} {id off : Nat} {l cs : List Cell} (ha : RTV (SS k h L F w) U L w a (.v false [.ptr id off])) (hx : RTV (SS k h L F w) U L w x (.v b l))
    (hid : h id = some (true, cs)) (hc : szT P t = some l.length ∧ off + l.length ≤ cs.length) :
    Snd k h w L F U nid ((do Instr.storeAt t a x; pure Next.skip : Sem Next).run P w) .undef [(id, some (true, putAt cs off l))] := by
  have hrx := RV.cells (rtv_v hx)
  obtain ⟨i, hi, hsz⟩ := szT_some hc.1
  have e : cs = cs.take off ++ (cs.drop off).take l.length ++ cs.drop (off + l.length) := by
    rw [List.append_assoc, ← List.drop_drop, List.take_append_drop, List.take_append_drop]
  obtain ⟨G, m', mo, hth⟩ := m.write (A := cs.take off) (B := (cs.drop off).take l.length) (C := cs.drop (off + l.length)) (by rw [hid]; exact congrArg (fun q => some (true, q)) e) (by simp; omega) hrx
  have hl := hrx.length
  cases ha with
  | ptr hU hnil =>
    cases hnil
    have hA : (cs.take off).length = off := by simp; omega
    rw [hA] at hth m' mo
    refine ⟨.skip, _, _, _, _, ?_, .inr ⟨rfl, rfl⟩, m', mo, fun i hi => .inl hi⟩
    have hst := run_storeCells_cells (P := P) (L id).1 ((L id).2 + off) x.cells.toList 0 w (fun j hj => by simpa using (hth j (by simpa using hj)).1) (fun j hj => by simpa using (hth j (by simpa using hj)).2) hrx.one
    simp only [Nat.add_zero] at hst
    have hsz' : x.cells.size = i.size := by rw [hsz, ← hl]; simp
    simp [Instr.storeAt, Instr.sureAddr, storeVar, sizeOf, typeInfo, hi, hsz', hst]

/-! ### Literals -/
theorem foldl_set (v : List Value) : ∀ (cs : Array Value) (off j : Nat), off + j + v.length ≤ cs.size →
    ((v.zipIdx j).foldl (fun cs (p : Value × Nat) => cs.setIfInBounds (off + p.2) p.1) cs).toList = cs.toList.take (off + j) ++ v ++ cs.toList.drop (off + j + v.length) := by
  induction v with
  | nil => intro cs off j _; simp
  | cons a v ih =>
    intro cs off j hj
    simp only [List.zipIdx_cons, List.foldl_cons]
    simp at hj
    rw [ih _ off (j + 1) (by simp; omega)]
    have hlt : off + j < cs.toList.length := by simp; omega
    simp only [Array.toList_setIfInBounds]
    rw [List.set_eq_take_append_cons_drop, if_pos hlt]
    have h1 : (cs.toList.take (off + j)).length = off + j := by simp; omega
    rw [show off + (j + 1) = (cs.toList.take (off + j)).length + 1 by omega, List.take_length_add_append]
    rw [show (cs.toList.take (off + j)).length + 1 + v.length = (cs.toList.take (off + j)).length + (1 + v.length) by omega, List.drop_length_add_append, Nat.add_comm 1 v.length]
    simp only [List.take_succ_cons, List.take_zero, List.drop_succ_cons, List.drop_drop, List.length_cons, List.append_assoc, List.cons_append, List.nil_append]
    rw [show off + j + 1 + v.length = off + j + (v.length + 1) by omega]

theorem fill_rep {S U L w} {place : Nat → Option (Nat × Nat)} : ∀ (parts : List (Nat × Value)) (tparts : List (Nat × TV)) (cs : Array Value) (tcs out : List Cell),
    Rep S U L w cs.toList tcs [] → parts.length = tparts.length → (∀ (j : Nat) (p : Nat × Value) (q : Nat × TV), parts[j]? = some p → tparts[j]? = some q → p.1 = q.1 ∧ RTV S U L w p.2 q.2) → fillT place tcs tparts = some out →
    ∃ cs', Instr.fill place cs parts = some cs' ∧ Rep S U L w cs'.toList out []
  | [], [], cs, tcs, out, hr, _, _, he => by
    simp [fillT] at he; subst he; exact ⟨cs, rfl, hr⟩
  | [], _ :: _, _, _, _, _, hl, _, _ => by simp at hl
  | _ :: _, [], _, _, _, _, hl, _, _ => by simp at hl
  | (i, x) :: ps, (i', tv) :: qs, cs, tcs, out, hr, hl, hp, he => by
    obtain ⟨e, hx⟩ := hp 0 _ _ rfl rfl
    simp only at e hx
    subst e
    cases tv with
    | undef => simp [fillT] at he
    | tup _ => simp [fillT] at he
    | v b l =>
      simp only [fillT] at he
      split at he
      · rename_i off size hpl
        split at he
        · rename_i hc
          obtain ⟨h1, h2⟩ := hc
          have hrx := RV.cells (rtv_v hx)
          have lx := hrx.length
          have lr := hr.length
          simp at lx lr
          have ht := foldl_set x.cells.toList cs off 0 (by simp; omega)
          simp only [Nat.add_zero] at ht
          have hrep : Rep S U L w (cs.toList.take off ++ x.cells.toList ++ cs.toList.drop (off + l.length)) (putAt tcs off l) [] := by
            have := ((rep_take off hr).append hrx).append (rep_drop (off + l.length) hr)
            simpa [putAt] using this
          obtain ⟨cs', k1, k2⟩ := fill_rep ps qs (x.cells.zipIdx.foldl (fun cs (p : Value × Nat) => cs.setIfInBounds (off + p.2) p.1) cs) (putAt tcs off l) out
            (by
              have e2 : (x.cells.zipIdx.foldl (fun cs (p : Value × Nat) => cs.setIfInBounds (off + p.2) p.1) cs).toList = cs.toList.take off ++ x.cells.toList ++ cs.toList.drop (off + l.length) := by
                rw [← Array.foldl_toList, Array.toList_zipIdx, ht]; simp [lx]
              rw [e2]; exact hrep) (by simpa using hl) (fun j p q hp' hq' => hp (j + 1) p q hp' hq') he
          refine ⟨cs', ?_, k2⟩
          unfold Instr.fill
          have hno : ¬ (x.cells.size ≠ size ∨ off + x.cells.size > cs.size) := by omega
          simp only [hpl]
          rw [if_neg (by simpa using hno)]
          exact k1
        · cases he
      · cases he

end
end Go.Proofs.Ytacfohamlkbpjaa
