/- One operation: what the T state says of it is what the machine does. Part 1: operations on values, loads, addresses. -/
import Derived.Test.YtacfohamlkbpjaaTf
namespace Go.Proofs.Ytacfohamlkbpjaa
open Go Go.RowKit

def ups (h : Nat → Option Node) (l : List (Nat × Option Node)) : Nat → Option Node := l.foldl (fun h p => upd h p.1 p.2) h

/-- The machine's step `r`, beside what T says: the value `tv`, the nodes' changes `l`. -/
def Snd (k : Base) (h : Nat → Option Node) (w : World) (L : Nat → Nat × Nat) (F : Nat → List Nat) (U : Nat → Prop) (_nid : Nat) (r : Result Next) (tv : TV) (l : List (Nat × Option Node)) : Prop :=
  ∃ nx w' L' F' U', r = .ok nx w' ∧ ((∃ v, nx = .value v ∧ RTV (SS k (ups h l) L' F' w') U' L' w' v tv) ∨ (nx = .skip ∧ tv = .undef)) ∧
    Mem k (ups h l) w' L' F' U' ∧ Mono k h w L F U (ups h l) w' L' F' U' ∧ ∀ i, U' i → U i ∨ i ∈ l.map (·.1)

section
variable {k : Base} {h : Nat → Option Node} {w : World} {L : Nat → Nat × Nat} {F : Nat → List Nat} {U : Nat → Prop} {nid : Nat} {P : Program}

theorem snd_same (m : Mem k h w L F U) {r : Result Next} {v : Value} {tv : TV} (hr : r = .ok (.value v) w) (hv : RTV (SS k h L F w) U L w v tv) : Snd k h w L F U nid r tv [] :=
  ⟨_, _, L, F, U, hr, .inl ⟨v, rfl, hv⟩, m, Mono.refl _ _ _ _ _ _, fun _ hi => .inl hi⟩

theorem rep_one {S U L w x c} (r : Rep S U L w [x] [c] []) : x.oneCell' = true := r.one x (by simp)

theorem rep_prim {S : Nat → Prop} {U L w} {x v : Value} (r : Rep S U L w [x] [.prim v] []) : x = v := by cases r; rfl
theorem rep_nilc {S : Nat → Prop} {U L w} {x : Value} (r : Rep S U L w [x] [.nil] []) : x = .slice none 0 0 := by cases r; rfl

theorem rtv_prim {S : Nat → Prop} {U L w} {v : Value} (h : v.oneCell' = true) : RTV S U L w v (.v false [.prim v]) := Rep.prim h .nil

theorem rtv_v {S : Nat → Prop} {U L w x b l} (r : RTV S U L w x (.v b l)) : RV S U L w x (b, l) := r

theorem rep_ofV {S : Nat → Prop} {U L w} : ∀ {vs : List Value}, (∀ v ∈ vs, v.oneCell' = true) → Rep S U L w vs (vs.map ofV) []
  | [], _ => .nil
  | v :: vs, hv => by
    have h1 := hv v (by simp)
    have h2 := rep_ofV (S := S) (U := U) (L := L) (w := w) (vs := vs) (fun v hm => hv v (by simp [hm]))
    simp only [List.map_cons]
    unfold ofV
    split
    · exact .nils h2
    · exact .prim h1 h2

theorem evT_const {S : Nat → Prop} {U L w t v} : RTV S U L w v (evT t (.const v)) := by
  simp only [evT]
  split
  · rename_i h; exact rep_ofV (vs := [v]) (by simpa using h)
  · trivial

theorem rep_take {S U L w} : ∀ {cs : List Cell} {vs : List Value} (n : Nat), Rep S U L w vs cs [] → Rep S U L w (vs.take n) (cs.take n) []
  | cs, vs, n, r => by
    obtain ⟨v1, v2, F1, F2, e1, e2, r1, r2⟩ := Rep.split (cs1 := cs.take n) (cs2 := cs.drop n) (by rw [List.take_append_drop]; exact r)
    have : F1 = [] := (List.append_eq_nil_iff.1 e2.symm).1
    subst this
    have hl := r1.length
    have : vs.take n = v1 := by
      rw [e1]
      by_cases hn : n ≤ cs.length
      · rw [List.take_append_of_le_length (by simp at hl; omega), List.take_of_length_le (by simp at hl; omega)]
      · have : v2 = [] := by
          have h2 := r2.length
          rw [List.drop_of_length_le (by omega)] at h2
          simpa using h2
        subst this; simp only [List.append_nil]; exact List.take_of_length_le (by simp at hl; omega)
    rw [this]; exact r1

theorem rep_drop {S U L w} {cs : List Cell} {vs : List Value} (n : Nat) (r : Rep S U L w vs cs []) : Rep S U L w (vs.drop n) (cs.drop n) [] := by
  obtain ⟨v1, v2, F1, F2, e1, e2, r1, r2⟩ := Rep.split (cs1 := cs.take n) (cs2 := cs.drop n) (by rw [List.take_append_drop]; exact r)
  have : F2 = [] := (List.append_eq_nil_iff.1 e2.symm).2
  subst this
  have hl := r1.length
  have : vs.drop n = v2 := by
    rw [e1]
    by_cases hn : n ≤ cs.length
    · rw [List.drop_append_of_le_length (by simp at hl; omega), List.drop_of_length_le (by simp at hl; omega)]; rfl
    · have : v2 = [] := by
        have h2 := r2.length
        rw [List.drop_of_length_le (by omega)] at h2
        simpa using h2
      subst this; simp only [List.append_nil]; exact List.drop_of_length_le (by simp at hl; omega)
  rw [this]; exact r2

/-- Out of a row that owns things: a stretch of it that owns nothing. -/
theorem rep_mid {S U L w} {cs : List Cell} {vs : List Value} {G : List Nat} (off n : Nat) (r : Rep S U L w vs cs G) (hc : ((cs.drop off).take n).all (fun c => !c.own?) = true) :
    Rep S U L w ((vs.drop off).take n) ((cs.drop off).take n) [] := by
  obtain ⟨v1, v2, F1, F2, e1, e2, r1, r2⟩ := Rep.split (cs1 := cs.take off) (cs2 := cs.drop off) (by rw [List.take_append_drop]; exact r)
  obtain ⟨v3, v4, F3, F4, e3, e4, r3, r4⟩ := Rep.split (cs1 := (cs.drop off).take n) (cs2 := (cs.drop off).drop n) (by rw [List.take_append_drop]; exact r2)
  have h1 := r1.length; have h2 := r2.length; have h3 := r3.length; have h4 := r4.length
  simp at h1 h2 h3 h4
  have hv2 : vs.drop off = v2 := by
    rw [e1]
    by_cases hn : off ≤ cs.length
    · rw [List.drop_append_of_le_length (by omega), List.drop_of_length_le (by omega)]; rfl
    · have : v2 = [] := List.eq_nil_of_length_eq_zero (by omega)
      subst this; simp only [List.append_nil]; exact List.drop_of_length_le (by omega)
  have hv3 : v2.take n = v3 := by
    rw [e3]
    by_cases hn : n ≤ cs.length - off
    · rw [List.take_append_of_le_length (by omega), List.take_of_length_le (by omega)]
    · have : v4 = [] := List.eq_nil_of_length_eq_zero (by omega)
      subst this; simp only [List.append_nil]; exact List.take_of_length_le (by omega)
  rw [hv2, hv3]
  have hF : F3 = [] := by
    clear e1 e2 e3 e4 hv2 hv3 r1 r2 r4 h1 h2 h3 h4
    generalize (cs.drop off).take n = l at hc r3
    induction r3 with
    | nil => rfl
    | prim _ _ ih => exact ih (by simp only [List.all_cons, Bool.and_eq_true] at hc; exact hc.2)
    | nils _ ih => exact ih (by simp only [List.all_cons, Bool.and_eq_true] at hc; exact hc.2)
    | ro _ _ _ _ _ _ _ _ ih => exact ih (by simp only [List.all_cons, Bool.and_eq_true] at hc; exact hc.2)
    | own _ _ _ _ _ _ _ _ _ _ => simp [Cell.own?] at hc
    | ref _ _ _ _ _ ih => exact ih (by simp only [List.all_cons, Bool.and_eq_true] at hc; exact hc.2)
    | ro0 _ _ ih => exact ih (by simp only [List.all_cons, Bool.and_eq_true] at hc; exact hc.2)
    | own0 _ _ ih => exact ih (by simp only [List.all_cons, Bool.and_eq_true] at hc; exact hc.2)
    | ref0 _ _ _ ih => exact ih (by simp only [List.all_cons, Bool.and_eq_true] at hc; exact hc.2)
    | ptr _ _ ih => exact ih (by simp only [List.all_cons, Bool.and_eq_true] at hc; exact hc.2)
    | rop _ _ _ _ _ _ ih => exact ih (by simp only [List.all_cons, Bool.and_eq_true] at hc; exact hc.2)
    | dead _ _ ih => exact ih (by simp only [List.all_cons, Bool.and_eq_true] at hc; exact hc.2)
  rw [hF] at r3; exact r3

theorem rangeAt_drop {w : World} {b o : Nat} {us : List Value} (r : w.rangeAt b o us) (n : Nat) : w.rangeAt b (o + n) (us.drop n) := by
  intro j v hv
  rw [List.getElem?_drop] at hv
  have := r (n + j) v hv
  rwa [← Nat.add_assoc] at this

theorem rangeAt_take {w : World} {b o : Nat} {us : List Value} (r : w.rangeAt b o us) (n : Nat) : w.rangeAt b o (us.take n) := by
  intro j v hv
  rw [List.getElem?_take] at hv
  split at hv
  · exact r j v hv
  · cases hv

/-! ### Loads -/
theorem run_load_t {t : TypeId} {b o : Nat} {us : List Value} {s : Nat} {r : Bool} (hs : szT P t = some s) (hrw : rowT P t = some r) (hrs : r = true ∨ s = 1) (hus : us.length = s) (hc : w.rangeAt b o us) :
    ∃ x, (Instr.loadAt t (.pointer (some ⟨b, o, none⟩))).run P w = .ok x w ∧ (r = true → x = .agg us.toArray) ∧ (r = false → us = [x]) := by
  unfold szT at hs
  unfold rowT at hrw
  cases hu : P.underlying t with
  | none => simp [hu] at hrw
  | some d =>
    simp [hu] at hrw
    cases r with
    | true => exact ⟨_, run_loadAt_mid w b o t us d hc hu hrw (by rw [hs, hus]), fun _ => rfl, fun e => by cases e⟩
    | false =>
      have h1 : s = 1 := hrs.resolve_left (by simp)
      subst h1
      match us, hus with
      | [x], _ =>
        have hx := hc 0 x rfl
        refine ⟨x, ?_, fun e => (by cases e), fun _ => rfl⟩
        have hagg : (isAgg t).run P w = .ok false w := by
          unfold isAgg
          rw [Sem.run_bind, run_underlying hu w]
          cases d <;> simp_all
        simp only [Nat.add_zero] at hx
        simp [Instr.loadAt, Instr.sureAddr, loadVar, Sem.run_bind, hagg, hx]

theorem rv_load {S U L w} {us : List Value} {cs : List Cell} {r : Bool} {x : Value} (hr : Rep S U L w us cs []) (h1 : r = true → x = .agg us.toArray) (h2 : r = false → us = [x]) : RTV S U L w x (.v r cs) := by
  cases r with
  | true => exact ⟨us.toArray, h1 rfl, by simpa using hr⟩
  | false => have := h2 rfl; subst this; exact hr

theorem snd_load_ptr (m : Mem k h w L F U) {t : TypeId} {x : Value} {id off s : Nat} {r o : Bool} {cs : List Cell} (hx : RTV (SS k h L F w) U L w x (.v false [.ptr id off]))
    (hs : szT P t = some s) (hrw : rowT P t = some r) (hrs : r = true ∨ s = 1) (hid : h id = some (o, cs)) (hc : off + s ≤ cs.length ∧ ((cs.drop off).take s).all (fun c => !c.own?) = true) :
    Snd k h w L F U nid ((do pure (Next.value (← Instr.loadAt t x)) : Sem Next).run P w) (.v r ((cs.drop off).take s)) [] := by
  obtain ⟨_, us, h1, h2, h3, _⟩ := m.node id _ hid
  simp only at h2
  have hl := h2.length
  cases hx with
  | ptr hU hn =>
    cases hn
    obtain ⟨y, hy, e1, e2⟩ := run_load_t (P := P) (us := (us.drop off).take s) hs hrw hrs (by simp; omega) (rangeAt_take (rangeAt_drop h1 off) s)
    exact snd_same m (v := y) (by simp [hy]) (rv_load (rep_mid off s h2 hc.2) e1 e2)

theorem snd_load_rop (m : Mem k h w L F U) {t : TypeId} {x : Value} {s : Nat} {r : Bool} {l : List Cell} (hx : RTV (SS k h L F w) U L w x (.v false [.rop l]))
    (hs : szT P t = some s) (hrw : rowT P t = some r) (hrs : r = true ∨ s = 1) (hc : s ≤ l.length) :
    Snd k h w L F U nid ((do pure (Next.value (← Instr.loadAt t x)) : Sem Next).run P w) (.v r (l.take s)) [] := by
  cases hx with
  | @rop b o _ us _ _ _ h1 h2 _ h3 hn =>
    cases hn
    have hl := h3.length
    obtain ⟨y, hy, e1, e2⟩ := run_load_t (P := P) (us := us.take s) hs hrw hrs (by simp; omega) (rangeAt_take h2 s)
    exact snd_same m (v := y) (by simp [hy]) (rv_load (rep_take s h3) e1 e2)

/-! ### Addresses -/
theorem closedL_drop : ∀ (l : List Cell) (n : Nat), closedL l = true → closedL (l.drop n) = true
  | [], n, _ => by simp [closedL]
  | c :: l, 0, h => h
  | c :: l, n + 1, h => by simp [closedL] at h; exact closedL_drop l n h.2
theorem closedL_take : ∀ (l : List Cell) (n : Nat), closedL l = true → closedL (l.take n) = true
  | [], n, _ => by simp [closedL]
  | c :: l, 0, h => by simp [closedL]
  | c :: l, n + 1, h => by simp [closedL] at h; simp [closedL, h.1, closedL_take l n h.2]
theorem closedL_append : ∀ (a b : List Cell), closedL (a ++ b) = (closedL a && closedL b)
  | [], b => by simp [closedL]
  | c :: a, b => by simp [closedL, closedL_append a b, Bool.and_assoc]

theorem elemT_some {t e : TypeId} (hee : elemT P t = some e) : P.underlying t = some (.slice e) := by
  unfold elemT at hee; split at hee
  · rename_i hu; obtain rfl := Option.some.inj hee; exact hu
  · cases hee

theorem szT_some {e : TypeId} {s : Nat} (hs : szT P e = some s) : ∃ i, P.info? e = some i ∧ i.size = s := by unfold szT at hs; simpa using hs

theorem fieldT_some {st : TypeId} {f : Nat} {fd : Field} (hf : fieldT P st f = some fd) : ∃ fs, P.underlying st = some (.struct fs) ∧ fs[f]? = some fd := by
  unfold fieldT at hf; split at hf
  · rename_i fs hu; exact ⟨fs, hu, hf⟩
  · cases hf

theorem snd_index_ref (m : Mem k h w L F U) {t e : TypeId} {s : Nat} {x : Value} {kk : IntKind} {j : Int} {id off n : Nat} (hx : RTV (SS k h L F w) U L w x (.v false [.ref id off n s])) (hee : elemT P t = some e) (hs : szT P e = some s)
    (h0 : 0 ≤ j) (h1 : j < n) : Snd k h w L F U nid ((do pure (Next.value (← Instr.indexAt t x (.int kk j))) : Sem Next).run P w) (.v false [.ptr id (off + j.toNat * s)]) [] := by
  have hu := elemT_some hee
  obtain ⟨i, hi, rfl⟩ := szT_some hs
  cases hx with
  | ref0 _ _ _ => omega
  | ref hU hW hn hz hnil =>
    cases hnil
    refine snd_same m (v := .pointer (some ⟨(L id).1, (L id).2 + (off + j.toNat * i.size), none⟩)) ?_ (.ptr hU .nil)
    simp [Instr.indexAt, asIntOf, run_underlying hu, sizeOf, typeInfo, hi, h0, h1, Addr.add_mid, Nat.add_assoc]

theorem snd_index_ro (m : Mem k h w L F U) {t e : TypeId} {s : Nat} {x : Value} {kk : IntKind} {j : Int} {n : Nat} {l : List Cell} (hx : RTV (SS k h L F w) U L w x (.v false [.sl false n s l])) (hee : elemT P t = some e) (hs : szT P e = some s)
    (h0 : 0 ≤ j) (h1 : j < n) : Snd k h w L F U nid ((do pure (Next.value (← Instr.indexAt t x (.int kk j))) : Sem Next).run P w) (.v false [.rop ((l.drop (j.toNat * s)).take s)]) [] := by
  have hu := elemT_some hee
  obtain ⟨i, hi, rfl⟩ := szT_some hs
  cases hx with
  | ro0 _ _ => omega
  | @ro b o _ cap _ _ us _ _ _ h2 h3 h4 h5 hcl h6 hnil =>
    cases hnil
    refine snd_same m (v := .pointer (some ⟨b, o + j.toNat * i.size, none⟩)) ?_ (.rop (us := (us.drop (j.toNat * i.size)).take i.size) (fun hl => h2 (fun e => hl (by rw [e]; simp))) (rangeAt_take (rangeAt_drop h5 _) _) (closedL_take _ _ (closedL_drop _ _ hcl)) (rep_take _ (rep_drop _ h6)) .nil)
    simp [Instr.indexAt, asIntOf, run_underlying hu, sizeOf, typeInfo, hi, h0, h1, Addr.add_mid]

theorem snd_field_ptr (m : Mem k h w L F U) {st : TypeId} {f : Nat} {fd : Field} {q id off : Nat} {x : Value} (hx : RTV (SS k h L F w) U L w x (.v false [.ptr id off])) (hf : fieldT P st f = some fd) (hs : szT P fd.type = some (q + 1)) :
    Snd k h w L F U nid ((do pure (Next.value (← Instr.fieldAt st x f)) : Sem Next).run P w) (.v false [.ptr id (off + fd.offset)]) [] := by
  obtain ⟨fs, hu, hfs⟩ := fieldT_some hf
  obtain ⟨i, hi, hiq⟩ := szT_some hs
  cases hx with
  | ptr hU hnil =>
    cases hnil
    refine snd_same m (v := .pointer (some ⟨(L id).1, (L id).2 + (off + fd.offset), none⟩)) ?_ (.ptr hU .nil)
    simp [Instr.fieldAt, Instr.sureAddr, run_underlying hu, hfs, fieldPlace, sizeOf, typeInfo, hi, hiq, Addr.add_mid, Nat.add_assoc]

theorem snd_field_rop (m : Mem k h w L F U) {st : TypeId} {f : Nat} {fd : Field} {q : Nat} {x : Value} {l : List Cell} (hx : RTV (SS k h L F w) U L w x (.v false [.rop l])) (hf : fieldT P st f = some fd) (hs : szT P fd.type = some (q + 1)) :
    Snd k h w L F U nid ((do pure (Next.value (← Instr.fieldAt st x f)) : Sem Next).run P w) (.v false [.rop (l.drop fd.offset)]) [] := by
  obtain ⟨fs, hu, hfs⟩ := fieldT_some hf
  obtain ⟨i, hi, hiq⟩ := szT_some hs
  cases hx with
  | @rop b o _ us _ _ _ h2 h5 hcl h6 hnil =>
    cases hnil
    refine snd_same m (v := .pointer (some ⟨b, o + fd.offset, none⟩)) ?_ (.rop (us := us.drop fd.offset) (fun hl => h2 (fun e => hl (by rw [e]; simp))) (rangeAt_drop h5 _) (closedL_drop _ _ hcl) (rep_drop _ h6) .nil)
    simp [Instr.fieldAt, Instr.sureAddr, run_underlying hu, hfs, fieldPlace, sizeOf, typeInfo, hi, hiq, Addr.add_mid]
end

end Go.Proofs.Ytacfohamlkbpjaa
