/- Small facts on T states; what an operation looks at. -/
import Derived.Test.YtacfohamlkbpjaaTm
namespace Go.Proofs.Ytacfohamlkbpjaa
open Go Go.RowKit

def ndOf (h : List (Option Node)) (i : Nat) : Option Node := (h[i]?).join

theorem nd_eq (σ : St) : σ.nd = ndOf σ.h := rfl

theorem ndOf_setH (h : List (Option Node)) (i : Nat) (n : Option Node) : ndOf (setH h i n) = upd (ndOf h) i n := by
  funext j
  unfold ndOf setH upd
  by_cases hi : i < h.length
  · rw [if_pos hi, List.getElem?_set]
    by_cases e : i = j
    · subst e; simp [hi]
    · rw [if_neg e, if_neg (fun h => e h.symm)]
  · rw [if_neg hi]
    by_cases e : j = i
    · subst e
      rw [if_pos rfl, List.getElem?_append_right (by simp; omega)]
      simp [show j - (h.length + (j - h.length)) = 0 by omega]
    · rw [if_neg e]
      by_cases h1 : j < h.length
      · rw [List.append_assoc, List.getElem?_append_left h1]
      · show _ = (h[j]?).join
        rw [List.getElem?_eq_none (l := h) (i := j) (by omega)]
        by_cases h2 : j < i
        · rw [List.getElem?_append_left (by simp; omega), List.getElem?_append_right (by omega), List.getElem?_replicate, if_pos (by omega)]; rfl
        · rw [List.getElem?_eq_none (by simp; omega)]

theorem ndOf_foldl : ∀ (l : Upds) (h : List (Option Node)), ndOf (l.foldl (fun h p => setH h p.1 p.2) h) = ups (ndOf h) l
  | [], _ => rfl
  | p :: l, h => by rw [List.foldl_cons, ndOf_foldl l, ndOf_setH]; rfl

theorem nd_app (σ : St) (d : Option Nat) (r : TV) (l : Upds) : (σ.app d r l).nd = ups σ.nd l := ndOf_foldl l σ.h

theorem setH_length (h : List (Option Node)) (i : Nat) (n : Option Node) : (setH h i n).length = max h.length (i + 1) := by
  unfold setH
  split
  · simp; omega
  · simp; omega

theorem foldl_length : ∀ (l : Upds) (h : List (Option Node)), h.length ≤ (l.foldl (fun h p => setH h p.1 p.2) h).length ∧ ∀ p ∈ l, p.1 < (l.foldl (fun h p => setH h p.1 p.2) h).length
  | [], h => ⟨Nat.le_refl _, by simp⟩
  | p :: l, h => by
    obtain ⟨h1, h2⟩ := foldl_length l (setH h p.1 p.2)
    have h3 := setH_length h p.1 p.2
    refine ⟨by rw [List.foldl_cons]; omega, fun q hq => ?_⟩
    rw [List.foldl_cons]
    rcases List.mem_cons.1 hq with rfl | hq
    · omega
    · exact h2 q hq

theorem nd_lt {σ : St} {i : Nat} {nd : Node} (h : σ.nd i = some nd) : i < σ.h.length := by
  rcases Nat.lt_or_ge i σ.h.length with h1 | h1
  · exact h1
  · rw [nd_eq] at h; unfold ndOf at h; rw [List.getElem?_eq_none h1] at h; cases h

theorem nd_none {σ : St} {i : Nat} (h : σ.h.length ≤ i) : σ.nd i = none := by
  rw [nd_eq]; unfold ndOf; rw [List.getElem?_eq_none h]; rfl

theorem tv_app (σ : St) (d : Option Nat) (r : TV) (l : Upds) (i : Nat) : (σ.app d r l).tv i = σ.tv i ∨ (d = some i ∧ (σ.app d r l).tv i = r) := by
  unfold St.app St.tv setT
  cases d with
  | none => exact .inl rfl
  | some d =>
    by_cases e : d = i
    · subst e
      by_cases hl : d < σ.t.length
      · exact .inr ⟨rfl, by simp [List.getD, hl]⟩
      · exact .inl (by show (σ.t.set d r).getD d _ = _; rw [List.set_eq_of_length_le (by omega)])
    · refine .inl ?_
      simp only [List.getD]
      rw [List.getElem?_set_ne e]

theorem tv_app_len (σ : St) (d : Option Nat) (r : TV) (l : Upds) : (σ.app d r l).t.length = σ.t.length := by
  unfold St.app setT
  cases d <;> simp

/-- A value put into a slot, beside what T puts there. -/
theorem put_rtv {S U : Nat → Prop} {L : Nat → Nat × Nat} {w : World} {σ : St} {a : Act} {d : Option Nat} {v : Value} {r : TV} {l : Upds} (hl : σ.t.length ≤ a.tmps.size)
    (ht : ∀ i, RTV S U L w (a.tmps.getD i undef) (σ.tv i)) (hv : RTV S U L w v r) :
    (∀ i, RTV S U L w ((a.put d v).tmps.getD i undef) ((σ.app d r l).tv i)) ∧ (σ.app d r l).t.length ≤ (a.put d v).tmps.size ∧ (a.put d v).defers = a.defers := by
  refine ⟨fun i => ?_, ?_, ?_⟩
  · cases d with
    | none => exact ht i
    | some d =>
      by_cases e : d = i
      · subst e
        by_cases hd : d < a.tmps.size
        · have e1 : (a.put (some d) v).tmps.getD d undef = v := by simp [Act.put, hd]
          rw [e1]
          rcases tv_app σ (some d) r l d with h1 | ⟨_, h1⟩
          · rw [h1]
            have : (σ.app (some d) r l).tv d = r ∨ σ.tv d = .undef := by
              by_cases hs : d < σ.t.length
              · left; simp [St.app, St.tv, setT, List.getD, hs]
              · right; simp [St.tv, List.getD, List.getElem?_eq_none (show σ.t.length ≤ d by omega)]
            rcases this with h2 | h2
            · rw [← h1, h2]; exact hv
            · rw [h2]; trivial
          · rw [h1]; exact hv
        · have : (σ.app (some d) r l).tv d = .undef := by
            unfold St.app St.tv setT
            simp only [List.getD]
            rw [List.getElem?_eq_none (by simp; omega)]; rfl
          rw [this]; trivial
      · have e1 : (a.put (some d) v).tmps.getD i undef = a.tmps.getD i undef := by
          simp only [Act.put, Array.getD_eq_getD_getElem?]
          rw [Array.getElem?_setIfInBounds_ne e]
        rw [e1]
        rcases tv_app σ (some d) r l i with h1 | ⟨h0, _⟩
        · rw [h1]; exact ht i
        · exact absurd (Option.some.inj h0) e
  · rw [tv_app_len]
    cases d <;> simp [Act.put, hl]
  · cases d <;> rfl

theorem evT_rtv {S U : Nat → Prop} {L : Nat → Nat × Nat} {w : World} {t : List TV} {a : Act} (ht : ∀ i, RTV S U L w (a.tmps.getD i undef) (t.getD i .undef)) (x : Operand) : RTV S U L w (a.eval x) (evT t x) := by
  cases x with
  | tmp i => exact ht i
  | const v => exact evT_const
  | global g => trivial
  | func f => trivial

theorem guard_wanted {S U : Nat → Prop} {L : Nat → Nat × Nat} {w : World} {ops : Array Oper} {t : List TV} {a : Act} {o : Oper} {b : Bool} (ht : ∀ i, RTV S U L w (a.tmps.getD i undef) (t.getD i .undef)) (hg : guardT ops t o = some b) :
    Region.wanted o (yielded ops a.tmps) = b := by
  unfold guardT at hg
  unfold Region.wanted
  split at hg
  · rename_i e; rw [e]; exact Option.some.inj hg
  · rename_i j want e
    rw [e]
    split at hg
    · rename_i d hd
      split at hg
      · rename_i c hc
        obtain rfl := Option.some.inj hg
        have h1 := ht d
        rw [hc] at h1
        have h2 := rep_prim h1
        have h3 : a.tmps[d]? = some (.bool c) := by
          rw [Array.getD_eq_getD_getElem?] at h2
          cases h4 : a.tmps[d]? with
          | none => rw [h4] at h2; simp [undef] at h2
          | some v => rw [h4] at h2; simp at h2; rw [h2]
        have : yielded ops a.tmps j = some c := by unfold yielded; rw [hd]; simp [h3]
        simp only [this]
        cases c <;> cases want <;> rfl
      · rename_i hc
        obtain rfl := Option.some.inj hg
        have h1 := ht d
        rw [hc] at h1
        obtain ⟨xs, h2, h3, _⟩ := h1
        obtain rfl : xs = #[] := by simpa using h3
        have : yielded ops a.tmps j = none := by
          unfold yielded
          rw [hd]
          rw [Array.getD_eq_getD_getElem?] at h2
          simp only [Option.bind_some]
          cases h4 : a.tmps[d]? with
          | none => rfl
          | some v => rw [h4] at h2; simp at h2; rw [h2]
        simp only [this]
        rfl
      · cases hg
    · cases hg

/-! ### An operation looks at its operands alone, and at the nodes that these name -/
theorem evT_congr {t t' : List TV} {x : Operand} (h : ∀ i, x = .tmp i → t.getD i .undef = t'.getD i .undef) : evT t x = evT t' x := by
  cases x with
  | tmp i => exact h i rfl
  | _ => rfl

theorem srcT_local {h h' : Nat → Option Node} {s : Nat} {tv : TV} (hh : ∀ i ∈ tv.ids, h i = h' i) : srcT h s tv = srcT h' s tv := by
  unfold srcT
  split <;> try rfl
  rename_i id off n s'
  rw [hh id (by simp [TV.ids, Cell.id?])]

theorem appendT_local {P : Program} {h h' : Nat → Option Node} {nid : Nat} {ts tx : TypeId} {s x : TV} (hs : ∀ i ∈ s.ids, h i = h' i) (hx : ∀ i ∈ x.ids, h i = h' i) : appendT P h nid ts tx s x = appendT P h' nid ts tx s x := by
  unfold appendT
  split
  · rfl
  · split
    · rw [srcT_local hx]
      split
      · split
        · split
          · rfl
          · rename_i id off n s'
            rw [hs id (by simp [TV.ids, Cell.id?])]
          · rfl
        · rfl
      · rfl
    · rfl

theorem eff_local {P : Program} {h h' : Nat → Option Node} {nid : Nat} {ev ev' : Operand → TV} {op : Op} (hev : ∀ x ∈ op.operands, ev x = ev' x) (hh : ∀ x ∈ op.operands, ∀ i ∈ (ev x).ids, h i = h' i) : eff P h nid ev op = eff P h' nid ev' op := by
  cases op <;> simp only [eff]
  case move x => rw [hev x (by simp [Op.operands])]
  case assign x => rw [hev x (by simp [Op.operands])]
  case pick c a b => rw [hev c (by simp [Op.operands]), hev a (by simp [Op.operands]), hev b (by simp [Op.operands])]
  case box t x => rw [hev x (by simp [Op.operands])]
  case build t parts =>
    have : parts.toList.map (fun p => (p.1, ev p.2)) = parts.toList.map fun p => (p.1, ev' p.2) := List.map_congr_left fun p hp => by
      rw [hev p.2 (by simp [Op.operands]; exact ⟨p.1, by simpa using hp⟩)]
    rw [this]
  case buildSlice t n parts =>
    have : parts.toList.map (fun p => (p.1, ev p.2)) = parts.toList.map fun p => (p.1, ev' p.2) := List.map_congr_left fun p hp => by
      rw [hev p.2 (by simp [Op.operands]; exact ⟨p.1, by simpa using hp⟩)]
    rw [this]
  case load t a =>
    rw [← hev a (by simp [Op.operands])]
    have := hh a (by simp [Op.operands])
    split
    · split
      · split
        · rename_i id off e
          rw [this id (by rw [e]; simp [TV.ids, Cell.id?])]
        · rfl
        · rfl
      · rfl
    · rfl
  case store t a x =>
    rw [← hev a (by simp [Op.operands]), ← hev x (by simp [Op.operands])]
    have := hh a (by simp [Op.operands])
    split
    · rename_i id off b l e1 e2
      rw [this id (by rw [e1]; simp [TV.ids, Cell.id?])]
    · rfl
  case nilCheck x => rw [hev x (by simp [Op.operands])]
  case binOp op t x y yt => rw [hev x (by simp [Op.operands]), hev y (by simp [Op.operands])]
  case unOp op t x => rw [hev x (by simp [Op.operands])]
  case convert s d x =>
    rw [← hev x (by simp [Op.operands])]
    split <;> try rfl
    rw [srcT_local (hh x (by simp [Op.operands]))]
  case makeSlice t l c => rw [hev l (by simp [Op.operands]), hev c (by simp [Op.operands])]
  case slice t x lo hi mx =>
    cases mx with
    | some _ => rfl
    | none =>
      simp only
      have e1 : lo.map ev = lo.map ev' := by cases lo with
        | none => rfl
        | some y => simp [hev y (by simp [Op.operands])]
      have e2 : hi.map ev = hi.map ev' := by cases hi with
        | none => rfl
        | some y => simp [hev y (by simp [Op.operands])]
      rw [hev x (by simp [Op.operands]), e1, e2]
  case fieldAddr s x f => rw [hev x (by simp [Op.operands])]
  case field s x f => rw [hev x (by simp [Op.operands])]
  case indexAddr t x i => rw [hev x (by simp [Op.operands]), hev i (by simp [Op.operands])]
  case index t x i => rw [hev x (by simp [Op.operands]), hev i (by simp [Op.operands])]
  case extract x i => rw [hev x (by simp [Op.operands])]
  case call c =>
    obtain ⟨callee, args, tys⟩ := c
    cases callee with
    | value _ => rfl
    | invoke _ _ => rfl
    | builtin b =>
      have hargs : ∀ x ∈ args.toList, ev x = ev' x := fun x hx => hev x (by simp [Op.operands, Call.operands]; simpa using hx)
      have e : args.toList.map ev = args.toList.map ev' := List.map_congr_left hargs
      simp only
      rw [← e]
      unfold callT
      split <;> try rfl
      rename_i ts tx s x e1 e2
      have hm : ∀ y, y ∈ args.toList.map ev → ∀ i ∈ y.ids, h i = h' i := by
        intro y hy i hi
        obtain ⟨z, hz, rfl⟩ := List.mem_map.1 hy
        exact hh z (by simp [Op.operands, Call.operands]; simpa using hz) i hi
      exact appendT_local (hm s (by rw [e2]; simp)) (hm x (by rw [e2]; simp))

theorem snapC_local {h h' : Nat → Option Node} {c : Cell} (hh : ∀ i ∈ c.id?, h i = h' i) : snapC h c = snapC h' c := by
  unfold snapC
  split <;> try rfl
  rename_i id off n s
  rw [hh id (by simp [Cell.id?])]

theorem snapL_local {h h' : Nat → Option Node} : ∀ {zs : List Nat} {l : List Cell}, (∀ i ∈ l.flatMap Cell.id?, h i = h' i) → snapL h zs l = snapL h' zs l
  | [], [], _ => rfl
  | _ :: _, [], _ => rfl
  | [], c :: l, hh => by
    simp only [snapL]
    rw [snapC_local (fun i hi => hh i (by simp [hi])), snapL_local (l := l) (fun i hi => hh i (by simp only [List.flatMap_cons, List.mem_append]; exact .inr hi))]
  | s :: zs, c :: l, hh => by
    have h1 := snapC_local (c := c) (fun i hi => hh i (by simp [hi]))
    have h2 := fun zs => snapL_local (zs := zs) (l := l) (fun i hi => hh i (by simp only [List.flatMap_cons, List.mem_append]; exact .inr hi))
    cases c <;> simp only [snapL, h2, h1]

theorem argT_local {h h' : Nat → Option Node} {m : Mode} {x : TV} (hh : ∀ i ∈ x.ids, h i = h' i) : argT h m x = argT h' m x := by
  unfold argT
  split
  · rename_i b l
    rw [snapL_local (h' := h') (fun i hi => hh i hi)]
  · rfl
  · rename_i id off
    rw [hh id (by simp [TV.ids, Cell.id?])]
  · rename_i id off n s
    rw [hh id (by simp [TV.ids, Cell.id?])]
  · rfl

theorem giveL_local {h h' : Nat → Option Node} : ∀ {l : List Cell} {k : Nat}, (∀ i ∈ l.flatMap Cell.id?, h i = h' i) → giveL h k l = giveL h' k l
  | [], _, _ => rfl
  | c :: l, k, hh => by
    have h2 := fun k => giveL_local (k := k) (l := l) (fun i hi => hh i (by simp only [List.flatMap_cons, List.mem_append]; exact .inr hi))
    cases c with
    | prim v => simp only [giveL, h2]
    | nil => simp only [giveL, h2]
    | sl o n s x => cases o <;> simp only [giveL, h2]
    | ref id off n s =>
      simp only [giveL, h2]
      rw [hh id (by simp [Cell.id?])]
    | _ => rfl

theorem argsG_local {h h' : Nat → Option Node} : ∀ {ms : List Mode} {xs : List TV} {k : Nat}, (∀ x ∈ xs, ∀ i ∈ x.ids, h i = h' i) → argsG h k ms xs = argsG h' k ms xs
  | [], [], _, _ => rfl
  | m :: _, [], _, _ => by cases m <;> rfl
  | [], x :: xs, k, hh => by
    simp only [argsG]
    rw [argT_local (hh x (by simp)), argsG_local (fun y hy => hh y (by simp [hy]))]
  | m :: ms, x :: xs, k, hh => by
    have h1 := argT_local (m := m) (hh x (by simp))
    have h2 := fun k => argsG_local (ms := ms) (k := k) (xs := xs) (fun y hy => hh y (by simp [hy]))
    cases m with
    | str =>
      cases x with
      | v b l =>
        simp only [argsG]
        rw [giveL_local (h' := h') (fun i hi => hh (.v b l) (by simp) i hi)]
        simp only [h2]
      | _ => simp only [argsG, h1, h2]
    | _ => simp only [argsG, h1, h2]

theorem argsT_local {h h' : Nat → Option Node} {ms : List Mode} {xs : List TV} (hh : ∀ x ∈ xs, ∀ i ∈ x.ids, h i = h' i) : argsT h ms xs = argsT h' ms xs := by
  unfold argsT; rw [argsG_local hh]

end Go.Proofs.Ytacfohamlkbpjaa
