/- Steps that the machine does not notice, on W states; lists of cells. -/
import Derived.Test.YtacfohamlkbpjaaUe
namespace Go.Proofs.Ytacfohamlkbpjaa
open Go Go.RowKit

def tsOK (τ : W) (ρ : List Nat) : List (Nat × TV) → Prop
  | [] => True
  | (i, v) :: l => renTV ρ (τ.tv i) = v ∧ tsOK τ ρ l

def hsOK (τ : W) (ρ : List Nat) : List (Nat × Bool) → List (Option Node) → Prop
  | [], [] => True
  | (i, f) :: r, m :: l => (match m with
    | none => True
    | some (o, cs) => ∃ cs0, τ.nd i = some (o, cs0) ∧ match f with
      | true => cs0.map (renC ρ) = cs
      | false => closedL cs0 = true ∧ cs0 = cs) ∧ hsOK τ ρ r l
  | _, _ => False

theorem tsOK_get {τ : W} {ρ : List Nat} : ∀ {l : List (Nat × TV)} (_ : tsOK τ ρ l) (i : Nat), look .undef l i = .undef ∨ look .undef l i = renTV ρ (τ.tv i)
  | [], _, _ => .inl rfl
  | (j, v) :: l, h, i => by
    rw [look_cons]
    by_cases e : j = i
    · subst e; rw [if_pos rfl]; exact .inr h.1.symm
    · rw [if_neg e]; exact tsOK_get h.2 i

theorem hsOK_len {τ : W} {ρ : List Nat} : ∀ {r : List (Nat × Bool)} {l : List (Option Node)}, hsOK τ ρ r l → l.length = r.length
  | [], [], _ => rfl
  | (_, _) :: r, _ :: l, h => by simp [hsOK_len h.2]
  | [], _ :: _, h => h.elim
  | (_, _) :: _, [], h => h.elim

theorem hsOK_get {τ : W} {ρ : List Nat} : ∀ {r : List (Nat × Bool)} {l : List (Option Node)}, hsOK τ ρ r l → ∀ (j : Nat) o cs, l[j]? = some (some (o, cs)) → ∃ p cs0, r[j]? = some p ∧ τ.nd p.1 = some (o, cs0) ∧ (if p.2 then cs0.map (renC ρ) else cs0) = cs ∧ (p.2 = false → closedL cs0 = true)
  | [], [], _, j, o, cs, h => by simp at h
  | (i, f) :: r, m :: l, h, 0, o, cs, hj => by
    obtain rfl := Option.some.inj hj
    obtain ⟨⟨cs0, h1, h2⟩, _⟩ := h
    refine ⟨(i, f), cs0, rfl, h1, ?_⟩
    cases f with
    | true => exact ⟨h2, fun e => by cases e⟩
    | false => exact ⟨h2.2, fun _ => h2.1⟩
  | (i, f) :: r, m :: l, h, j + 1, o, cs, hj => hsOK_get h.2 j o cs hj
  | [], _ :: _, h, _, _, _, _ => h.elim
  | (_, _) :: _, [], h, _, _, _, _ => h.elim

/-- No node is kept twice. -/
def keptN (ρ : List (Nat × Bool)) (hs : List (Option Node)) : Bool :=
  decide (((ρ.zip hs).filter fun p => match p.2 with | some _ => true | none => false).map (·.1.1)).Nodup

theorem keptN_ok : ∀ {ρ : List (Nat × Bool)} {hs : List (Option Node)}, (((ρ.zip hs).filter fun p => match p.2 with | some _ => true | none => false).map (·.1.1)).Nodup → ∀ (i j : Nat) nd nd' p q, hs[i]? = some (some nd) → hs[j]? = some (some nd') → ρ[i]? = some p → ρ[j]? = some q → p.1 = q.1 → i = j
  | [], _, _, i, j, _, _, _, _, _, _, h, _, _ => by simp at h
  | _ :: _, [], _, i, j, _, _, _, _, h, _, _, _, _ => by simp at h
  | r :: ρ, m :: hs, hn, i, j, nd, nd', p, q, h1, h2, h3, h4, he => by
    have mem : ∀ {ρ : List (Nat × Bool)} {hs : List (Option Node)} (i : Nat) nd p, hs[i]? = some (some nd) → ρ[i]? = some p → p.1 ∈ ((ρ.zip hs).filter fun p => match p.2 with | some _ => true | none => false).map (·.1.1) := by
      intro ρ hs i nd p h1 h2
      refine List.mem_map.2 ⟨(p, some nd), List.mem_filter.2 ⟨?_, rfl⟩, rfl⟩
      exact List.mem_of_getElem? (i := i) (by rw [List.getElem?_zip_eq_some]; exact ⟨h2, h1⟩)
    have tl : (((ρ.zip hs).filter fun p => match p.2 with | some _ => true | none => false).map (·.1.1)).Nodup := by
      simp only [List.zip_cons_cons, List.filter_cons] at hn
      split at hn
      · exact (List.nodup_cons.1 hn).2
      · exact hn
    have hd : ∀ nd, m = some nd → r.1 ∉ ((ρ.zip hs).filter fun p => match p.2 with | some _ => true | none => false).map (·.1.1) := by
      intro nd e
      subst e
      simp only [List.zip_cons_cons, List.filter_cons, if_true, List.map_cons] at hn
      exact (List.nodup_cons.1 hn).1
    cases i with
    | zero =>
      obtain rfl := Option.some.inj h1
      obtain rfl := Option.some.inj h3
      cases j with
      | zero => rfl
      | succ j => exact absurd (by rw [he]; exact mem j nd' q h2 h4) (hd nd rfl)
    | succ i =>
      cases j with
      | zero =>
        obtain rfl := Option.some.inj h2
        obtain rfl := Option.some.inj h4
        exact absurd (by rw [← he]; exact mem i nd p h1 h3) (hd nd' rfl)
      | succ j => rw [keptN_ok tl i j nd nd' p q h1 h2 h3 h4 he]

/-- Temps and nodes that are kept, with new numbers for the nodes (`ρ`: the old number of each; does it lead to others?). -/
theorem w_ren {n : Nat} {τ : W} (ρ : List (Nat × Bool)) {t : List (Nat × TV)} {hs : List (Option Node)} {nx tn : Nat} (hn : (ρ.take n).map (·.1) = List.range n) (hd : keptN ρ hs = true)
    (hnx : nx = ρ.length) (htn : tn = τ.tn) (ht : tsOK τ (ρ.map (·.1)) t) (hh : hsOK τ (ρ.map (·.1)) ρ hs) : WGh n τ ⟨t, idx 0 hs, nx, tn⟩ := by
  subst hnx htn
  refine ⟨fun σ s => ?_⟩
  have hl := hsOK_len hh
  let σ' : St := ⟨(List.range σ.t.length).map fun i => look .undef t i, hs⟩
  have htv : ∀ i, σ'.tv i = if i < σ.t.length then look .undef t i else .undef := fun i => by
    show ((List.range σ.t.length).map (fun i => look TV.undef t i)).getD i TV.undef = _
    rw [List.getD_eq_getElem?_getD, List.getElem?_map]
    by_cases hi : i < σ.t.length
    · rw [List.getElem?_range hi, if_pos hi]; rfl
    · rw [List.getElem?_eq_none (by simpa using hi), if_neg hi]; rfl
  have hout : ∀ i, ¬ i < σ.t.length → look TV.undef t i = .undef := fun i hi => by
    rcases tsOK_get ht i with e | e
    · exact e
    · rw [e, ← s.tv]
      have : σ.tv i = .undef := by
        unfold St.tv
        rw [List.getD_eq_getElem?_getD, List.getElem?_eq_none (by omega)]; rfl
      rw [this]; rfl
  refine ⟨σ', ⟨fun i => ?_, fun i => ?_, hl, by simp [σ', s.tn]⟩, gh_ren ρ hn (fun i j nd nd' p q h1 h2 h3 h4 h5 => ?_) (fun j nd hj => ?_) (fun i => ?_) (by simp [σ']) hl⟩
  · rw [htv]
    show _ = look .undef t i
    split
    · rfl
    · rename_i hi; exact (hout i hi).symm
  · show ndOf hs i = look none (idx 0 hs) i
    rw [look_idx _ _ _ _ (Nat.zero_le _), Nat.sub_zero]
    unfold ndOf
    rw [List.getD_eq_getElem?_getD]
    cases hs[i]? <;> rfl
  · have un : ∀ (i : Nat) nd, σ'.nd i = some nd → hs[i]? = some (some nd) := fun i nd hi => by
      have : ndOf hs i = some nd := hi
      unfold ndOf at this
      cases hq : hs[i]? with
      | none => rw [hq] at this; cases this
      | some q => rw [hq] at this; exact congrArg some this
    exact keptN_ok (of_decide_eq_true hd) i j nd nd' p q (un i nd h1) (un j nd' h2) h3 h4 h5
  · obtain ⟨o, cs⟩ := nd
    have hj' : hs[j]? = some (some (o, cs)) := by
      have : ndOf hs j = some (o, cs) := hj
      unfold ndOf at this
      cases hq : hs[j]? with
      | none => rw [hq] at this; cases this
      | some q => rw [hq] at this; exact congrArg some this
    obtain ⟨p, cs0, h1, h2, h3, h4⟩ := hsOK_get hh j o cs hj'
    exact ⟨p, cs0, h1, by rw [s.nd]; exact h2, h3.symm, h4⟩
  · rw [htv]
    split
    · rw [s.tv]; exact tsOK_get ht i
    · exact .inl rfl

/-- A T step, told of W states. -/
theorem w_of {n : Nat} {τ τ' : W} (h : ∀ σ, Sim τ σ → ∃ σ', Gh n σ σ' ∧ (∀ i, σ'.tv i = τ'.tv i) ∧ (∀ i, σ'.nd i = τ'.nd i) ∧ σ'.h.length = τ'.nx ∧ σ'.t.length = τ'.tn) : WGh n τ τ' :=
  ⟨fun σ s => by obtain ⟨σ', h1, h2, h3, h4, h5⟩ := h σ s; exact ⟨σ', ⟨h2, h3, h4, h5⟩, h1⟩⟩

theorem look_setH {τ : W} {σ : St} (s : Sim τ σ) (i : Nat) (m : Option Node) (x : Nat) : ndOf (setH σ.h i m) x = look none ((i, m) :: τ.h) x := by
  rw [ndOf_setH, look_cons]
  unfold upd
  by_cases e : x = i
  · rw [if_pos e, if_pos e.symm]
  · rw [if_neg e, if_neg (fun q => e q.symm)]; exact s.nd x

theorem look_set {τ : W} {σ : St} (s : Sim τ σ) {i : Nat} (hi : i < τ.tn) (v : TV) (x : Nat) : (σ.t.set i v).getD x .undef = look .undef ((i, v) :: τ.t) x := by
  rw [look_cons, List.getD_eq_getElem?_getD, List.getElem?_set]
  by_cases e : i = x
  · rw [if_pos e, if_pos e, if_pos (by rw [s.tn]; exact hi)]; rfl
  · rw [if_neg e, if_neg e]
    have := s.tv x
    unfold St.tv W.tv at this
    rw [List.getD_eq_getElem?_getD] at this; exact this

theorem nd_lt' {τ : W} {σ : St} (s : Sim τ σ) {i : Nat} {m : Node} (h : τ.nd i = some m) : i < τ.nx := by
  rw [← s.nx]; exact nd_lt ((s.nd i).trans h)

theorem w_freeze {n : Nat} {t h nx tn} (i : Nat) {cs cs' : List Cell} (hi : look none h i = some (true, cs)) (hc : roifyL cs = cs') : WGh n ⟨t, h, nx, tn⟩ ⟨t, (i, some (false, cs')) :: h, nx, tn⟩ := by
  subst hc
  refine w_of fun σ s => ⟨_, gh_freeze ((s.nd i).trans hi), s.tv, fun x => look_setH s i _ x, ?_, s.tn⟩
  show (setH σ.h i _).length = nx
  rw [setH_length, s.nx]; have := nd_lt' s hi; simp at this ⊢; omega

theorem w_inline {n : Nat} {t h nx tn} (i j : Nat) {c s' : Nat} {A C cs : List Cell} (hij : i ≠ j) (hi : look none h i = some (true, A ++ [.ref j 0 c s'] ++ C)) (hj : look none h j = some (true, cs)) (hs : cs.all Cell.shal = true) (hl : cs.length = c * s') (hsz : s' ≠ 0) :
    WGh n ⟨t, h, nx, tn⟩ ⟨t, (i, some (true, A ++ [.sl true c s' cs] ++ C)) :: (j, none) :: h, nx, tn⟩ := by
  refine w_of fun σ s => ⟨_, gh_inline hij ((s.nd i).trans hi) ((s.nd j).trans hj) hs hl hsz, s.tv, fun x => ?_, ?_, s.tn⟩
  · show ndOf (setH (setH σ.h j none) i _) x = look none ((i, _) :: (j, none) :: h) x
    rw [ndOf_setH, look_cons]
    unfold upd
    by_cases e : x = i
    · rw [if_pos e, if_pos e.symm]
    · rw [if_neg e, if_neg (fun q => e q.symm)]; exact look_setH s j none x
  · show (setH (setH σ.h j none) i _).length = nx
    rw [setH_length, setH_length, s.nx]; have := nd_lt' s hi; have := nd_lt' s hj; simp at *; omega

theorem w_drawOut {n : Nat} {t h nx tn} (i : Nat) {c s' : Nat} {A C cs : List Cell} (hi : look none h i = some (true, A ++ [.sl true c s' cs] ++ C)) :
    WGh n ⟨t, h, nx, tn⟩ ⟨t, (nx, some (true, cs)) :: (i, some (true, A ++ [.ref nx 0 c s'] ++ C)) :: h, nx + 1, tn⟩ := by
  refine w_of fun σ s => ⟨_, gh_drawOut ((s.nd i).trans hi), s.tv, fun x => ?_, ?_, s.tn⟩
  · have hx : σ.h.length = nx := s.nx
    show ndOf (setH (setH σ.h i _) σ.h.length _) x = look none ((nx, _) :: (i, _) :: h) x
    rw [ndOf_setH, look_cons, hx]
    unfold upd
    by_cases e : x = nx
    · rw [if_pos e, if_pos e.symm]
    · rw [if_neg e, if_neg (fun q => e q.symm)]; exact look_setH s i _ x
  · show (setH (setH σ.h i _) σ.h.length _).length = nx + 1
    rw [setH_length, setH_length, s.nx]; have := nd_lt' s hi; simp at *; omega

theorem w_tmp {n : Nat} {t h nx tn} (i : Nat) {v v' : TV} (hi : look .undef t i = v) (hlt : Nat.blt i tn = true) (hv : TW (look none h) v v') : WGh n ⟨t, h, nx, tn⟩ ⟨(i, v') :: t, h, nx, tn⟩ := by
  subst hi
  refine w_of fun σ s => ⟨_, gh_tmp i (tv' := v') ?_, fun x => look_set s (Nat.le_of_ble_eq_true hlt) v' x, s.nd, s.nx, by simpa using s.tn⟩
  have e1 : σ.nd = look none h := funext s.nd
  rw [s.tv, e1]; exact hv

theorem w_node {n : Nat} {t h nx tn} (i : Nat) {o : Bool} {cs cs' : List Cell} (hi : look none h i = some (o, cs)) (hc : CWs (look none h) cs cs') : WGh n ⟨t, h, nx, tn⟩ ⟨t, (i, some (o, cs')) :: h, nx, tn⟩ := by
  refine w_of fun σ s => ⟨_, gh_node i ((s.nd i).trans hi) (cs' := cs') ?_, s.tv, fun x => look_setH s i _ x, ?_, s.tn⟩
  · have e1 : σ.nd = look none h := funext s.nd
    rw [e1]; exact hc
  · show (setH σ.h i _).length = nx
    rw [setH_length, s.nx]; have := nd_lt' s hi; simp at this ⊢; omega

theorem w_virt {n : Nat} {t h nx tn} (i s' : Nat) (hi : look .undef t i = .v false [.nil]) (hlt : Nat.blt i tn = true) : WGh n ⟨t, h, nx, tn⟩ ⟨(i, .v false [.ref nx 0 0 s']) :: t, (nx, some (true, [])) :: h, nx + 1, tn⟩ := by
  refine w_of fun σ s => ⟨_, gh_virt i s' ((s.tv i).trans hi), fun x => ?_, fun x => ?_, ?_, by simpa using s.tn⟩
  · have hx : σ.h.length = nx := s.nx
    rw [hx]; exact look_set s (Nat.le_of_ble_eq_true hlt) _ x
  · have hx : σ.h.length = nx := s.nx
    rw [hx]; exact look_setH s nx _ x
  · show (setH σ.h σ.h.length _).length = nx + 1
    rw [setH_length, s.nx]; simp

end Go.Proofs.Ytacfohamlkbpjaa
