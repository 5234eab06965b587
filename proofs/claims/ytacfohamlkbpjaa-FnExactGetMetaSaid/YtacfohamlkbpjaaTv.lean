/- The operations of a region in any order. -/
import Derived.Test.YtacfohamlkbpjaaTu
namespace Go.Proofs.Ytacfohamlkbpjaa
open Go Go.RowKit

section
variable {P : Program} {k : Base} {n : Nat} {L0 : Nat → Nat × Nat}

def lst (listed : Array Bool) (p : PU) : Bool := listed.getD p.2 false

/-- The state when the listed are done. -/
def tau (ops : Array Oper) (us : List (TV × Upds)) (σ : St) (listed : Array Bool) : St := foldP ops (us.zipIdx.filter (lst listed)) σ

def bdL (B : Nat) (us : List (TV × Upds)) (listed : Array Bool) (x : Nat) : Prop := x < B ∨ ∃ p ∈ us.zipIdx.filter (lst listed), x ∈ p.1.2.map (·.1)

theorem zip_get {us : List (TV × Upds)} {p : PU} (h : p ∈ us.zipIdx) : us[p.2]? = some p.1 := by
  obtain ⟨u, i⟩ := p
  exact List.mem_zipIdx_iff_getElem?.1 h

theorem zip_split {us : List (TV × Upds)} {i : Nat} {u : TV × Upds} (h : us[i]? = some u) : us.zipIdx = us.zipIdx.take i ++ (u, i) :: us.zipIdx.drop (i + 1) := by
  have h' : us.zipIdx[i]? = some (u, i) := by rw [List.getElem?_zipIdx, h]; simp
  obtain ⟨hlt, he⟩ := List.getElem?_eq_some_iff.1 h'
  rw [← he, List.getElem_cons_drop, List.take_append_drop]

theorem zip_lt {us : List (TV × Upds)} {i : Nat} {p : PU} (h : p ∈ us.zipIdx.take i) : p.2 < i := by
  obtain ⟨j, hj⟩ := List.getElem?_of_mem h
  rw [List.getElem?_take] at hj
  split at hj
  · rw [List.getElem?_zipIdx] at hj
    cases hq : us[j]? with
    | none => rw [hq] at hj; simp at hj
    | some q => rw [hq] at hj; simp at hj; rw [← hj]; simpa
  · cases hj

theorem zip_gt {us : List (TV × Upds)} {i : Nat} {p : PU} (h : p ∈ us.zipIdx.drop (i + 1)) : i < p.2 := by
  obtain ⟨j, hj⟩ := List.getElem?_of_mem h
  rw [List.getElem?_drop, List.getElem?_zipIdx] at hj
  cases hq : us[i + 1 + j]? with
  | none => rw [hq] at hj; simp at hj
  | some q => rw [hq] at hj; simp at hj; rw [← hj]; simp; omega

theorem filter_off {α : Type} {l : List α} {f : α → Bool} (h : ∀ x ∈ l, f x = false) : l.filter f = [] := List.filter_eq_nil_iff.2 fun x hx => by simp [h x hx]

/-- What the listed do of a kind is what is done of it before `i`. -/
theorem kind_before {us : List (TV × Upds)} {i : Nat} {u : TV × Upds} {listed : Array Bool} (hi : us[i]? = some u) (hl : listed.getD i false = false) (g : PU → Bool)
    (h1 : ∀ p ∈ us.zipIdx, p.2 < i → g p = true → listed.getD p.2 false = true) (h2 : ∀ p ∈ us.zipIdx, i < p.2 → g p = true → listed.getD p.2 false = false) :
    (us.zipIdx.filter (lst listed)).filter g = (us.zipIdx.take i).filter g := by
  conv => lhs; rw [zip_split hi]
  have e1 : (us.zipIdx.drop (i + 1)).filter (fun a => g a && lst listed a) = [] := filter_off fun p hp => by
    have hm := List.mem_of_mem_drop hp
    cases hg : g p with
    | false => rfl
    | true => simp [lst, h2 p hm (zip_gt hp) hg]
  have e2 : (us.zipIdx.take i).filter (fun a => g a && lst listed a) = (us.zipIdx.take i).filter g := List.filter_congr fun p hp => by
    have hm := List.mem_of_mem_take hp
    cases hg : g p with
    | false => rfl
    | true => simp [lst, h1 p hm (zip_lt hp) hg]
  rw [List.filter_filter, List.filter_append, List.filter_cons_of_neg (by simp only [lst, Bool.and_eq_true, not_and]; intro _; simp only [hl]; decide), e1, e2, List.append_nil]

theorem getD_set {listed : Array Bool} {i j : Nat} (hi : i < listed.size) : (listed.setIfInBounds i true).getD j false = if j = i then true else listed.getD j false := by
  by_cases e : j = i
  · subst e; simp [Array.getD_eq_getD_getElem?, hi]
  · rw [if_neg e]
    simp only [Array.getD_eq_getD_getElem?, Array.getElem?_setIfInBounds]
    rw [if_neg (fun q => e q.symm)]

/-- One more is done: where in the row it stands is all one. -/
theorem kind_more {us : List (TV × Upds)} {i : Nat} {u : TV × Upds} {listed : Array Bool} (hi : us[i]? = some u) (hsz : i < listed.size) (hl : listed.getD i false = false) (g : PU → Bool)
    (h2 : g (u, i) = true → ∀ p ∈ us.zipIdx, i < p.2 → g p = true → listed.getD p.2 false = false) :
    (us.zipIdx.filter (lst (listed.setIfInBounds i true))).filter g = (us.zipIdx.filter (lst listed) ++ [(u, i)]).filter g := by
  have hs := zip_split hi
  have off : ∀ q ∈ us.zipIdx.take i, lst (listed.setIfInBounds i true) q = lst listed q := fun q hq => by
    have := zip_lt hq
    unfold lst; rw [getD_set hsz, if_neg (by omega)]
  have off2 : ∀ q ∈ us.zipIdx.drop (i + 1), lst (listed.setIfInBounds i true) q = lst listed q := fun q hq => by
    have := zip_gt hq
    unfold lst; rw [getD_set hsz, if_neg (by omega)]
  have e1 : us.zipIdx.filter (lst (listed.setIfInBounds i true)) = (us.zipIdx.take i).filter (lst listed) ++ (u, i) :: (us.zipIdx.drop (i + 1)).filter (lst listed) := by
    conv => lhs; rw [hs]
    rw [List.filter_append, List.filter_cons_of_pos (by unfold lst; rw [getD_set hsz]; simp), List.filter_congr off, List.filter_congr off2]
  have e2 : us.zipIdx.filter (lst listed) = (us.zipIdx.take i).filter (lst listed) ++ (us.zipIdx.drop (i + 1)).filter (lst listed) := by
    conv => lhs; rw [hs]
    rw [List.filter_append, List.filter_cons_of_neg (by simp only [lst]; rw [hl]; decide)]
  rw [e1, e2]
  simp only [List.filter_append, List.filter_cons, List.filter_nil]
  by_cases hg : g (u, i) = true
  · have e3 : ((us.zipIdx.drop (i + 1)).filter (lst listed)).filter g = [] := by
      rw [List.filter_filter]
      refine filter_off fun p hp => ?_
      have hm := List.mem_of_mem_drop hp
      cases hgp : g p with
      | false => rfl
      | true => simp [lst, h2 hg p hm (zip_gt hp) hgp]
    rw [e3]; simp
  · simp [hg]

theorem bef_closed {ops : Array Oper} {listed : Array Bool} (hc : ∀ i o e, ops[i]? = some o → e ∈ o.after → Region.binds .any e = true → listed.getD i false = true → listed.getD e.on false = true) :
    ∀ {d i j : Nat}, befT ops d i j = true → listed.getD j false = true → listed.getD i false = true
  | 0, _, _, h, _ => by simp [befT] at h
  | d + 1, i, j, h, hj => by
    unfold befT at h
    split at h
    · rename_i o ho
      simp only [Bool.or_eq_true, List.any_eq_true, Bool.and_eq_true, beq_iff_eq] at h
      rcases h with ⟨e, he, hb, rfl⟩ | ⟨e, he, hb, h⟩
      · exact hc j o e ho (by simpa using he) hb hj
      · exact bef_closed hc h (hc j o e ho (by simpa using he) hb hj)
    · cases h

theorem bef_ready {ops : Array Oper} {listed : Array Bool} (hc : ∀ i o e, ops[i]? = some o → e ∈ o.after → Region.binds .any e = true → listed.getD i false = true → listed.getD e.on false = true)
    {d i j : Nat} (h : befT ops d i j = true) {o : Oper} (ho : ops[j]? = some o) (hr : ∀ e ∈ o.after, Region.binds .any e = true → listed.getD e.on false = true) : listed.getD i false = true := by
  cases d with
  | zero => simp [befT] at h
  | succ d =>
    simp only [befT, ho, Bool.or_eq_true, List.any_eq_true, Bool.and_eq_true, beq_iff_eq] at h
    rcases h with ⟨e, he, hb, rfl⟩ | ⟨e, he, hb, h⟩
    · exact hr e (by simpa using he) hb
    · exact bef_closed hc h (hr e (by simpa using he) hb)

theorem apart_tw {a b : FP} (h : a.apart b = true) : (∀ x ∈ a.tw, x ∉ b.tr ∧ x ∉ b.tw) ∧ (∀ x ∈ a.tr, x ∉ b.tw) ∧ (∀ x ∈ a.nw, x ∉ b.nr ∧ x ∉ b.nw) ∧ (∀ x ∈ a.nr, x ∉ b.nw) := by
  simp only [FP.apart, Bool.and_eq_true, List.all_eq_true, Bool.not_eq_true'] at h
  obtain ⟨⟨⟨h1, h2⟩, h3⟩, h4⟩ := h
  have nc : ∀ {l : List Nat} {x : Nat}, l.contains x = false → x ∉ l := fun h hm => by rw [List.contains_iff_mem.2 hm] at h; cases h
  exact ⟨fun x hx => ⟨nc (h1 x hx).1, nc (h1 x hx).2⟩, fun x hx => nc (h2 x hx), fun x hx => ⟨nc (h3 x hx).1, nc (h3 x hx).2⟩, fun x hx => nc (h4 x hx)⟩

theorem fps_get {ops : Array Oper} {σ : St} {us : List (TV × Upds)} {i : Nat} {u : TV × Upds} (h : us[i]? = some u) (d : FP) : (fpsT ops σ us).getD i d = fpT ops (foldP ops (us.zipIdx.take i) σ) i u := by
  have hlt := (List.getElem?_eq_some_iff.1 h).1
  unfold fpsT
  rw [List.getD_eq_getElem?_getD, List.getElem?_map, List.getElem?_range hlt]
  show fpT ops ((statesT ops σ us 0).getD i _) i (us.getD i _) = _
  rw [statesT_get hlt]
  simp [h]

/-- What is asked of a region that runs in any order. -/
structure AnyOK (P : Program) (ops : Array Oper) (σ : St) (us : List (TV × Upds)) (depth : Nat) : Prop where
  len : us.length = ops.size
  op : ∀ (j : Nat) (u : TV × Upds), us[j]? = some u → OpOK P (σ.h.length + 16 * j) ops j (foldP ops (us.zipIdx.take j) σ) u.1 u.2
  order : orderOK ops depth (fpsT ops σ us) = true
  ids : idsOK ops depth σ.h.length us = true
  after : afterOK ops = true

variable {ops : Array Oper} {σ : St} {us : List (TV × Upds)} {depth : Nat} {Q : Exit → Act → World → Prop}

theorem AnyOK.pair (h : AnyOK P ops σ us depth) {i j : Nat} {u v : TV × Upds} (hij : i < j) (hi : us[i]? = some u) (hj : us[j]? = some v) :
    (fpT ops (foldP ops (us.zipIdx.take i) σ) i u).apart (fpT ops (foldP ops (us.zipIdx.take j) σ) j v) = true ∨ befT ops depth i j = true := by
  have ho := h.order
  have hjl := (List.getElem?_eq_some_iff.1 hj).1
  simp only [orderOK, List.all_eq_true, List.mem_range, Bool.or_eq_true] at ho
  have hlen : (fpsT ops σ us).length = us.length := by simp [fpsT]
  have := ho j (by omega) i hij
  rwa [fps_get hi, fps_get hj] at this

theorem AnyOK.id (h : AnyOK P ops σ us depth) {p : PU} (hp : p ∈ us.zipIdx) {x : Nat} (hx : x ∈ p.1.2.map (·.1)) :
    x < σ.h.length ∨ (x - σ.h.length) / 16 = p.2 ∨ befT ops depth ((x - σ.h.length) / 16) p.2 = true := by
  have hi := h.ids
  simp only [idsOK, List.all_eq_true, Bool.or_eq_true, decide_eq_true_eq, beq_iff_eq] at hi
  obtain ⟨q, hq, rfl⟩ := List.mem_map.1 hx
  rcases hi p hp q hq with (h1 | h1) | h1
  · exact .inl h1
  · exact .inr (.inl h1)
  · exact .inr (.inr h1)

theorem mem_ready {md : Region.Mode} {listed : Array Bool} {i : Nat} (h : i ∈ Region.ready md ops listed) :
    listed.getD i true = false ∧ ∃ o, ops[i]? = some o ∧ ∀ e ∈ o.after, Region.binds md e = true → listed.getD e.on false = true := by
  unfold Region.ready at h
  obtain ⟨h1, h2⟩ := List.mem_filter.1 h
  simp only [Bool.and_eq_true, Bool.not_eq_true'] at h2
  obtain ⟨h3, h4⟩ := h2
  refine ⟨h3, ?_⟩
  cases ho : ops[i]? with
  | none => rw [ho] at h4; simp at h4
  | some o =>
    rw [ho] at h4
    simp only [Option.map_some, Option.getD_some, Array.all_eq_true_iff_forall_mem, Bool.or_eq_true, Bool.not_eq_true'] at h4
    refine ⟨o, rfl, fun e he hb => ?_⟩
    rcases h4 e he with h5 | h5
    · rw [hb] at h5; cases h5
    · exact h5

theorem all_listed (h : AnyOK P ops σ us depth) {listed : Array Bool} (hs : listed.size = ops.size) (hr : Region.ready .any ops listed = []) : ∀ i, i < ops.size → listed.getD i false = true := by
  intro i
  induction i using Nat.strongRecOn with
  | _ i ih =>
    intro hi
    cases hl : listed.getD i false with
    | true => rfl
    | false =>
      exfalso
      have hm : i ∈ Region.ready .any ops listed := by
        unfold Region.ready
        refine List.mem_filter.2 ⟨List.mem_range.2 hi, ?_⟩
        have ho : ops[i]? = some ops[i] := Array.getElem?_eq_getElem hi
        have ha := h.after
        simp only [afterOK, List.all_eq_true, List.mem_range] at ha
        have hai := ha i hi
        rw [ho] at hai
        simp only [List.all_eq_true, Bool.or_eq_true, Bool.not_eq_true', decide_eq_true_eq] at hai
        have hl' : listed.getD i true = false := by
          rw [Array.getD_eq_getD_getElem?] at hl ⊢
          rw [Array.getElem?_eq_getElem (by omega)] at hl ⊢
          exact hl
        rw [hl', ho]
        simp only [Bool.not_false, Bool.true_and, Option.map_some, Option.getD_some, Array.all_eq_true_iff_forall_mem, Bool.or_eq_true, Bool.not_eq_true']
        intro e he
        rcases hai e (by simpa using he) with h5 | h5
        · exact .inl h5
        · exact .inr (ih e.on h5 (by omega))
      rw [hr] at hm; cases hm

theorem count_one {i : Nat} {f : Nat → Bool} (hf : f i = true) : ∀ {l : List Nat}, l.Nodup → i ∈ l → (l.filter fun j => f j && j != i).length + 1 = (l.filter f).length
  | [], _, h => by cases h
  | a :: l, hn, h => by
    obtain ⟨h1, h2⟩ := List.nodup_cons.1 hn
    by_cases e : a = i
    · subst e
      have : l.filter (fun j => f j && j != a) = l.filter f := List.filter_congr fun j hj => by
        have : j ≠ a := fun e => h1 (e ▸ hj)
        simp [this]
      rw [List.filter_cons_of_neg (by simp), List.filter_cons_of_pos hf, this]; rfl
    · have hm : i ∈ l := (List.mem_cons.1 h).resolve_left (fun q => e q.symm)
      have ih := count_one hf h2 hm
      cases hfa : f a with
      | true => rw [List.filter_cons_of_pos (by simp [hfa, e]), List.filter_cons_of_pos hfa]; simp only [List.length_cons]; omega
      | false => rw [List.filter_cons_of_neg (by simp [hfa]), List.filter_cons_of_neg (by simp [hfa])]; exact ih

theorem ops_any (h : AnyOK P ops σ us depth) (hQ : ∀ a' w', RS k n L0 (foldP ops us.zipIdx σ) a' w' → Q .normal a' w') : ∀ (fuel : Nat) (listed : Array Bool) (a : Act) (w : World),
    listed.size = ops.size → (∀ i o e, ops[i]? = some o → e ∈ o.after → Region.binds .any e = true → listed.getD i false = true → listed.getD e.on false = true) →
    ((List.range ops.size).filter fun i => !listed.getD i false).length = fuel →
    RSb k n L0 (bdL σ.h.length us listed) (tau ops us σ listed) a w → wpAny P .any ops Q fuel listed a w := by
  have done : ∀ (listed : Array Bool) (a : Act) (w : World), (∀ i, i < ops.size → listed.getD i false = true) → RSb k n L0 (bdL σ.h.length us listed) (tau ops us σ listed) a w → Q .normal a w := by
    intro listed a w hall hrs
    refine hQ _ _ ?_
    have e : us.zipIdx.filter (lst listed) = us.zipIdx := List.filter_eq_self.2 fun p hp => by
      have := (List.getElem?_eq_some_iff.1 (zip_get hp)).1
      exact hall _ (by rw [← h.len]; exact this)
    unfold tau at hrs
    rw [e] at hrs
    obtain ⟨g1, g2⟩ := foldP_h ops us.zipIdx σ
    refine hrs.congr (fun _ => rfl) (fun _ => rfl) rfl (fun x hx => ?_)
    rcases hx with hx | ⟨p, hp, hx⟩
    · exact Nat.lt_of_lt_of_le hx g1
    · exact g2 p (List.mem_filter.1 hp).1 x hx
  intro fuel
  induction fuel with
  | zero =>
    intro listed a w hs hc hcount hrs
    have hz : True → ∀ i, i < ops.size → listed.getD i false = true := fun _ i hi => by
      have := List.filter_eq_nil_iff.1 (List.length_eq_zero_iff.1 hcount) i (List.mem_range.2 hi)
      simpa using this
    refine ⟨?_, done listed a w (hz trivial) hrs⟩
    cases hrd : Region.ready .any ops listed with
    | nil => rfl
    | cons i r =>
      exfalso
      obtain ⟨h1, o, h2, _⟩ := mem_ready (md := .any) (ops := ops) (listed := listed) (i := i) (by rw [hrd]; simp)
      have hi : i < ops.size := (Array.getElem?_eq_some_iff.1 h2).1
      have := hz trivial i hi
      rw [Array.getD_eq_getD_getElem?, Array.getElem?_eq_getElem (by omega)] at h1 this
      simp at h1 this
      rw [h1] at this; cases this
  | succ fuel ih =>
    intro listed a w hs hc hcount hrs
    refine ⟨fun hr => done listed a w (all_listed h hs hr) hrs, fun i hi => ?_⟩
    obtain ⟨hl, o, ho, hrd⟩ := mem_ready hi
    have hi : i < ops.size := (Array.getElem?_eq_some_iff.1 ho).1
    have hl' : listed.getD i false = false := by
      rw [Array.getD_eq_getD_getElem?, Array.getElem?_eq_getElem (by omega)] at hl ⊢; exact hl
    have hu : us[i]? = some (us[i]'(by rw [h.len]; exact hi)) := List.getElem?_eq_getElem _
    generalize us[i]'(by rw [h.len]; exact hi) = u at hu
    -- before `i` and behind it
    have before : ∀ p ∈ us.zipIdx, p.2 < i → ¬ (listed.getD p.2 false = true) → (fpT ops (foldP ops (us.zipIdx.take p.2) σ) p.2 p.1).apart (fpT ops (foldP ops (us.zipIdx.take i) σ) i u) = true := fun p hp hlt hn =>
      (h.pair hlt (zip_get hp) hu).resolve_right fun hb => hn (bef_ready hc hb ho hrd)
    have behind : ∀ p ∈ us.zipIdx, i < p.2 → listed.getD p.2 false = true → (fpT ops (foldP ops (us.zipIdx.take i) σ) i u).apart (fpT ops (foldP ops (us.zipIdx.take p.2) σ) p.2 p.1) = true := fun p hp hlt hn =>
      (h.pair hlt hu (zip_get hp)).resolve_right fun hb => by have := bef_closed hc hb hn; rw [hl'] at this; cases this
    have fpi : fpT ops (foldP ops (us.zipIdx.take i) σ) i u = ⟨tmpsR ops o, o.dst.toList, nodesR (foldP ops (us.zipIdx.take i) σ) o, u.2.map (·.1)⟩ := by simp [fpT, ho]
    have fpw : ∀ (p : PU) τ, (∀ t, dstOf ops p.2 = some t → t ∈ (fpT ops τ p.2 p.1).tw) ∧ ((∃ o, ops[p.2]? = some o) → (fpT ops τ p.2 p.1).nw = p.1.2.map (·.1)) := fun p τ => by
      refine ⟨fun t ht => ?_, fun ⟨o', ho'⟩ => by simp [fpT, ho']⟩
      unfold dstOf at ht
      cases hq : ops[p.2]? with
      | none => rw [hq] at ht; simp at ht
      | some o' => rw [hq] at ht; simp at ht; simp [fpT, hq, ht]
    have pin : ∀ p ∈ us.zipIdx, ∃ o, ops[p.2]? = some o := fun p hp => by
      have := (List.getElem?_eq_some_iff.1 (zip_get hp)).1
      exact ⟨_, Array.getElem?_eq_getElem (by rw [← h.len]; exact this)⟩
    refine h.op i u hu k n L0 (bdL σ.h.length us listed) (tau ops us σ listed) a w Q _ hrs (fun o' ho' => ?_) (fun j hj => ?_) (fun a' w' h' => ?_)
    · rw [ho] at ho'
      obtain rfl := Option.some.inj ho'
      refine ⟨fun t ht => tv_fold' ops t σ (kind_before hu hl' _ (fun p hp hlt hg => ?_) (fun p hp hgt hg => ?_)), fun x hx => nd_fold' ops x σ (kind_before hu hl' _ (fun p hp hlt hg => ?_) (fun p hp hgt hg => ?_))⟩
      · refine Classical.byContradiction fun hn => ?_
        have := (apart_tw (before p hp hlt hn)).1 t ((fpw p _).1 t (by simpa [Wt] using hg))
        rw [fpi] at this; exact this.1 ht
      · refine Bool.eq_false_iff.2 fun hn => ?_
        have := apart_tw (behind p hp hgt hn)
        rw [fpi] at this
        exact this.2.1 t ht ((fpw p _).1 t (by simpa [Wt] using hg))
      · refine Classical.byContradiction fun hn => ?_
        have := (apart_tw (before p hp hlt hn)).2.2.1 x (by rw [(fpw p _).2 (pin p hp)]; exact List.contains_iff_mem.1 hg)
        rw [fpi] at this; exact this.1 hx
      · refine Bool.eq_false_iff.2 fun hn => ?_
        have := apart_tw (behind p hp hgt hn)
        rw [fpi] at this
        exact this.2.2.2 x hx (by rw [(fpw p _).2 (pin p hp)]; exact List.contains_iff_mem.1 hg)
    · have nofr : ∀ p ∈ us.zipIdx.filter (lst listed), σ.h.length + 16 * i + j ∉ p.1.2.map (·.1) := fun p hp hx => by
        obtain ⟨hp1, hp2⟩ := List.mem_filter.1 hp
        have e16 : (σ.h.length + 16 * i + j - σ.h.length) / 16 = i := by omega
        rcases h.id hp1 hx with h1 | h1 | h1
        · omega
        · rw [e16] at h1; unfold lst at hp2; rw [← h1, hl'] at hp2; cases hp2
        · rw [e16] at h1; have := bef_closed hc h1 hp2; rw [hl'] at this; cases this
      refine ⟨?_, fun hb => ?_⟩
      · unfold tau
        rw [nd_fold' (qs := []) ops _ σ (by
          rw [List.filter_nil]
          exact filter_off fun p hp => Bool.eq_false_iff.2 fun hc' => nofr p hp (List.contains_iff_mem.1 hc'))]
        exact nd_none (by show σ.h.length ≤ _; omega)
      · rcases hb with hb | ⟨p, hp, hx⟩
        · omega
        · exact nofr p hp hx
    · refine ih (listed.setIfInBounds i true) a' w' (by simpa using hs) ?_ ?_ ?_
      · intro x o' e ho' he hb hx
        rw [getD_set (by omega)] at hx ⊢
        by_cases ex : x = i
        · subst ex
          rw [ho] at ho'
          obtain rfl := Option.some.inj ho'
          split
          · rfl
          · exact hrd e he hb
        · rw [if_neg ex] at hx
          split
          · rfl
          · exact hc x o' e ho' he hb hx
      · have hc1 := count_one (i := i) (f := fun j => !listed.getD j false) (by simp only [hl']; rfl) List.nodup_range (List.mem_range.2 hi)
        rw [hcount] at hc1
        rw [← Nat.succ.inj hc1]
        congr 1
        refine List.filter_congr fun j _ => ?_
        rw [getD_set (by omega)]
        by_cases e : j = i
        · simp [e]
        · simp [e]
      · unfold tau at h' ⊢
        rw [show (foldP ops (us.zipIdx.filter (lst listed)) σ).app ((ops[i]?).bind (·.dst)) u.1 u.2 = foldP ops (us.zipIdx.filter (lst listed) ++ [(u, i)]) σ by rw [foldP_append]; rfl] at h'
        refine h'.congr (fun t => tv_fold' ops t σ (kind_more hu (by omega) hl' _ (fun hg p hp hgt hgp => ?_))) (fun x => nd_fold' ops x σ (kind_more hu (by omega) hl' _ (fun hg p hp hgt hgp => ?_))) (by rw [foldP_len, foldP_len]) (fun x hx => ?_)
        · refine Bool.eq_false_iff.2 fun hn => ?_
          have := (apart_tw (behind p hp hgt hn)).1 t ((fpw (u, i) _).1 t (by simpa [Wt] using hg))
          exact this.2 ((fpw p _).1 t (by simpa [Wt] using hgp))
        · refine Bool.eq_false_iff.2 fun hn => ?_
          have := (apart_tw (behind p hp hgt hn)).2.2.1 x (by rw [fpi]; exact List.contains_iff_mem.1 hg)
          exact this.2 (by rw [(fpw p _).2 (pin p hp)]; exact List.contains_iff_mem.1 hgp)
        · have hmem : (u, i) ∈ us.zipIdx.filter (lst (listed.setIfInBounds i true)) := List.mem_filter.2 ⟨List.mem_zipIdx_iff_getElem?.2 hu, by unfold lst; rw [getD_set (by omega)]; simp⟩
          rcases hx with hx | hx
          · rcases hx with hx | ⟨p, hp, hx⟩
            · exact .inl hx
            · obtain ⟨hp1, hp2⟩ := List.mem_filter.1 hp
              refine .inr ⟨p, List.mem_filter.2 ⟨hp1, ?_⟩, hx⟩
              unfold lst at hp2 ⊢
              rw [getD_set (by omega)]
              split
              · rfl
              · exact hp2
          · exact .inr ⟨(u, i), hmem, hx⟩

end

end Go.Proofs.Ytacfohamlkbpjaa
