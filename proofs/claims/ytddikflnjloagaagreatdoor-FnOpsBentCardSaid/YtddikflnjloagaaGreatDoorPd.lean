/- What the law comes to: functions of the program, each with what it gives back, and the plain facts behind them. -/
import Derived.ProofKit
import Derived.Carry
import Derived.SizedLaws
import Derived.HandedShaped
import Derived.Test.YtddikflnjloagaaGreatDoorPc
namespace Go.Proofs.YtddikflnjloagaaGreatDoor

section
open Go Go.RowKit

section

variable {P : Program} {k : Base} {n : Nat} {L0 : Nat → Nat × Nat}

def lst (listed : Array Bool) (p : PU) : Bool := listed.getD p.2 false

/-- The state when the listed are done. -/
def tau (ops : Array Oper) (us : List (TV × Upds)) (σ : St) (listed : Array Bool) : St := foldP ops (us.zipIdx.filter (lst listed)) σ

def bdL (B : Nat) (us : List (TV × Upds)) (listed : Array Bool) (x : Nat) : Prop := x < B ∨ ∃ p ∈ us.zipIdx.filter (lst listed), x ∈ p.1.2.map (·.1)

theorem zip_get {us : List (TV × Upds)} {p : PU} (h : p ∈ us.zipIdx) : us[p.2]? = some p.1 := by
  obtain ⟨u, i⟩ := p
  exact List.mem_zipIdx_iff_getElem?.1 h

theorem zip_split {us : List (TV × Upds)} {i : Nat} {u : TV × Upds} (h : us[i]? = some u) : us.zipIdx = us.zipIdx.take i ++ (u, i) :: us.zipIdx.drop (i + 1) := by
  have h' : us.zipIdx[i]? = some (u, i) := by rw [List.getElem?_zipIdx, h]; simp
  obtain ⟨hlt, he⟩ := List.getElem?_eq_some_iff.1 h'
  rw [← he, List.getElem_cons_drop, List.take_append_drop]

theorem zip_lt {us : List (TV × Upds)} {i : Nat} {p : PU} (h : p ∈ us.zipIdx.take i) : p.2 < i := by
  obtain ⟨j, hj⟩ := List.getElem?_of_mem h
  rw [List.getElem?_take] at hj
  split at hj
  · rw [List.getElem?_zipIdx] at hj
    cases hq : us[j]? with
    | none => rw [hq] at hj; simp at hj
    | some q => rw [hq] at hj; simp at hj; rw [← hj]; simpa
  · cases hj

theorem zip_gt {us : List (TV × Upds)} {i : Nat} {p : PU} (h : p ∈ us.zipIdx.drop (i + 1)) : i < p.2 := by
  obtain ⟨j, hj⟩ := List.getElem?_of_mem h
  rw [List.getElem?_drop, List.getElem?_zipIdx] at hj
  cases hq : us[i + 1 + j]? with
  | none => rw [hq] at hj; simp at hj
  | some q => rw [hq] at hj; simp at hj; rw [← hj]; simp; omega

theorem filter_off {α : Type} {l : List α} {f : α → Bool} (h : ∀ x ∈ l, f x = false) : l.filter f = [] := List.filter_eq_nil_iff.2 fun x hx => by simp [h x hx]

/-- What the listed do of a kind is what is done of it before `i`. -/
theorem kind_before {us : List (TV × Upds)} {i : Nat} {u : TV × Upds} {listed : Array Bool} (hi : us[i]? = some u) (hl : listed.getD i false = false) (g : PU → Bool)
    (h1 : ∀ p ∈ us.zipIdx, p.2 < i → g p = true → listed.getD p.2 false = true) (h2 : ∀ p ∈ us.zipIdx, i < p.2 → g p = true → listed.getD p.2 false = false) :
    (us.zipIdx.filter (lst listed)).filter g = (us.zipIdx.take i).filter g := by
  conv => lhs; rw [zip_split hi]
  have e1 : (us.zipIdx.drop (i + 1)).filter (fun a => g a && lst listed a) = [] := filter_off fun p hp => by
    have hm := List.mem_of_mem_drop hp
    cases hg : g p with
    | false => rfl
    | true => simp [lst, h2 p hm (zip_gt hp) hg]
  have e2 : (us.zipIdx.take i).filter (fun a => g a && lst listed a) = (us.zipIdx.take i).filter g := List.filter_congr fun p hp => by
    have hm := List.mem_of_mem_take hp
    cases hg : g p with
    | false => rfl
    | true => simp [lst, h1 p hm (zip_lt hp) hg]
  rw [List.filter_filter, List.filter_append, List.filter_cons_of_neg (by simp only [lst, Bool.and_eq_true, not_and]; intro _; simp only [hl]; decide), e1, e2, List.append_nil]

theorem getD_set {listed : Array Bool} {i j : Nat} (hi : i < listed.size) : (listed.setIfInBounds i true).getD j false = if j = i then true else listed.getD j false := by
  by_cases e : j = i
  · subst e; simp [Array.getD_eq_getD_getElem?, hi]
  · rw [if_neg e]
    simp only [Array.getD_eq_getD_getElem?, Array.getElem?_setIfInBounds]
    rw [if_neg (fun q => e q.symm)]

/-- One more is done: where in the row it stands is all one. -/
theorem kind_more {us : List (TV × Upds)} {i : Nat} {u : TV × Upds} {listed : Array Bool} (hi : us[i]? = some u) (hsz : i < listed.size) (hl : listed.getD i false = false) (g : PU → Bool)
    (h2 : g (u, i) = true → ∀ p ∈ us.zipIdx, i < p.2 → g p = true → listed.getD p.2 false = false) :
    (us.zipIdx.filter (lst (listed.setIfInBounds i true))).filter g = (us.zipIdx.filter (lst listed) ++ [(u, i)]).filter g := by
  have hs := zip_split hi
  have off : ∀ q ∈ us.zipIdx.take i, lst (listed.setIfInBounds i true) q = lst listed q := fun q hq => by
    have := zip_lt hq
    unfold lst; rw [getD_set hsz, if_neg (by omega)]
  have off2 : ∀ q ∈ us.zipIdx.drop (i + 1), lst (listed.setIfInBounds i true) q = lst listed q := fun q hq => by
    have := zip_gt hq
    unfold lst; rw [getD_set hsz, if_neg (by omega)]
  have e1 : us.zipIdx.filter (lst (listed.setIfInBounds i true)) = (us.zipIdx.take i).filter (lst listed) ++ (u, i) :: (us.zipIdx.drop (i + 1)).filter (lst listed) := by
    conv => lhs; rw [hs]
    rw [List.filter_append, List.filter_cons_of_pos (by unfold lst; rw [getD_set hsz]; simp), List.filter_congr off, List.filter_congr off2]
  have e2 : us.zipIdx.filter (lst listed) = (us.zipIdx.take i).filter (lst listed) ++ (us.zipIdx.drop (i + 1)).filter (lst listed) := by
    conv => lhs; rw [hs]
    rw [List.filter_append, List.filter_cons_of_neg (by simp only [lst]; rw [hl]; decide)]
  rw [e1, e2]
  simp only [List.filter_append, List.filter_cons, List.filter_nil]
  by_cases hg : g (u, i) = true
  · have e3 : ((us.zipIdx.drop (i + 1)).filter (lst listed)).filter g = [] := by
      rw [List.filter_filter]
      refine filter_off fun p hp => ?_
      have hm := List.mem_of_mem_drop hp
      cases hgp : g p with
      | false => rfl
      | true => simp [lst, h2 hg p hm (zip_gt hp) hgp]
    rw [e3]; simp
  · simp [hg]

theorem bef_closed {ops : Array Oper} {listed : Array Bool} (hc : ∀ i o e, ops[i]? = some o → e ∈ o.after → Region.binds .any e = true → listed.getD i false = true → listed.getD e.on false = true) :
    ∀ {d i j : Nat}, befT ops d i j = true → listed.getD j false = true → listed.getD i false = true
  | 0, _, _, h, _ => by simp [befT] at h
  | d + 1, i, j, h, hj => by
    unfold befT at h
    split at h
    · rename_i o ho
      simp only [Bool.or_eq_true, List.any_eq_true, Bool.and_eq_true, beq_iff_eq] at h
      rcases h with ⟨e, he, hb, rfl⟩ | ⟨e, he, hb, h⟩
      · exact hc j o e ho (by simpa using he) hb hj
      · exact bef_closed hc h (hc j o e ho (by simpa using he) hb hj)
    · cases h

theorem bef_ready {ops : Array Oper} {listed : Array Bool} (hc : ∀ i o e, ops[i]? = some o → e ∈ o.after → Region.binds .any e = true → listed.getD i false = true → listed.getD e.on false = true)
    {d i j : Nat} (h : befT ops d i j = true) {o : Oper} (ho : ops[j]? = some o) (hr : ∀ e ∈ o.after, Region.binds .any e = true → listed.getD e.on false = true) : listed.getD i false = true := by
  cases d with
  | zero => simp [befT] at h
  | succ d =>
    simp only [befT, ho, Bool.or_eq_true, List.any_eq_true, Bool.and_eq_true, beq_iff_eq] at h
    rcases h with ⟨e, he, hb, rfl⟩ | ⟨e, he, hb, h⟩
    · exact hr e (by simpa using he) hb
    · exact bef_closed hc h (hr e (by simpa using he) hb)

theorem apart_tw {a b : FP} (h : a.apart b = true) : (∀ x ∈ a.tw, x ∉ b.tr ∧ x ∉ b.tw) ∧ (∀ x ∈ a.tr, x ∉ b.tw) ∧ (∀ x ∈ a.nw, x ∉ b.nr ∧ x ∉ b.nw) ∧ (∀ x ∈ a.nr, x ∉ b.nw) := by
  simp only [FP.apart, Bool.and_eq_true, List.all_eq_true, Bool.not_eq_true'] at h
  obtain ⟨⟨⟨h1, h2⟩, h3⟩, h4⟩ := h
  have nc : ∀ {l : List Nat} {x : Nat}, l.contains x = false → x ∉ l := fun h hm => by rw [List.contains_iff_mem.2 hm] at h; cases h
  exact ⟨fun x hx => ⟨nc (h1 x hx).1, nc (h1 x hx).2⟩, fun x hx => nc (h2 x hx), fun x hx => ⟨nc (h3 x hx).1, nc (h3 x hx).2⟩, fun x hx => nc (h4 x hx)⟩

theorem fps_get {ops : Array Oper} {σ : St} {us : List (TV × Upds)} {i : Nat} {u : TV × Upds} (h : us[i]? = some u) (d : FP) : (fpsT ops σ us).getD i d = fpT ops (foldP ops (us.zipIdx.take i) σ) i u := by
  have hlt := (List.getElem?_eq_some_iff.1 h).1
  unfold fpsT
  rw [List.getD_eq_getElem?_getD, List.getElem?_map, List.getElem?_range hlt]
  show fpT ops ((statesT ops σ us 0).getD i _) i (us.getD i _) = _
  rw [statesT_get hlt]
  simp [h]

/-- What is asked of a region that runs in any order. -/
structure AnyOK (P : Program) (ops : Array Oper) (σ : St) (us : List (TV × Upds)) (depth : Nat) : Prop where
  len : us.length = ops.size
  op : ∀ (j : Nat) (u : TV × Upds), us[j]? = some u → OpOK P (σ.h.length + 16 * j) ops j (foldP ops (us.zipIdx.take j) σ) u.1 u.2
  order : orderOK ops depth (fpsT ops σ us) = true
  ids : idsOK ops depth σ.h.length us = true
  after : afterOK ops = true

variable {ops : Array Oper} {σ : St} {us : List (TV × Upds)} {depth : Nat} {Q : Exit → Act → World → Prop}

theorem AnyOK.pair (h : AnyOK P ops σ us depth) {i j : Nat} {u v : TV × Upds} (hij : i < j) (hi : us[i]? = some u) (hj : us[j]? = some v) :
    (fpT ops (foldP ops (us.zipIdx.take i) σ) i u).apart (fpT ops (foldP ops (us.zipIdx.take j) σ) j v) = true ∨ befT ops depth i j = true := by
  have ho := h.order
  have hjl := (List.getElem?_eq_some_iff.1 hj).1
  simp only [orderOK, List.all_eq_true, List.mem_range, Bool.or_eq_true] at ho
  have hlen : (fpsT ops σ us).length = us.length := by simp [fpsT]
  have := ho j (by omega) i hij
  rwa [fps_get hi, fps_get hj] at this

theorem AnyOK.id (h : AnyOK P ops σ us depth) {p : PU} (hp : p ∈ us.zipIdx) {x : Nat} (hx : x ∈ p.1.2.map (·.1)) :
    x < σ.h.length ∨ (x - σ.h.length) / 16 = p.2 ∨ befT ops depth ((x - σ.h.length) / 16) p.2 = true := by
  have hi := h.ids
  simp only [idsOK, List.all_eq_true, Bool.or_eq_true, decide_eq_true_eq, beq_iff_eq] at hi
  obtain ⟨q, hq, rfl⟩ := List.mem_map.1 hx
  rcases hi p hp q hq with (h1 | h1) | h1
  · exact .inl h1
  · exact .inr (.inl h1)
  · exact .inr (.inr h1)

theorem mem_ready {md : Region.Mode} {listed : Array Bool} {i : Nat} (h : i ∈ Region.ready md ops listed) :
    listed.getD i true = false ∧ ∃ o, ops[i]? = some o ∧ ∀ e ∈ o.after, Region.binds md e = true → listed.getD e.on false = true := by
  unfold Region.ready at h
  obtain ⟨h1, h2⟩ := List.mem_filter.1 h
  simp only [Bool.and_eq_true, Bool.not_eq_true'] at h2
  obtain ⟨h3, h4⟩ := h2
  refine ⟨h3, ?_⟩
  cases ho : ops[i]? with
  | none => rw [ho] at h4; simp at h4
  | some o =>
    rw [ho] at h4
    simp only [Option.map_some, Option.getD_some, Array.all_eq_true_iff_forall_mem, Bool.or_eq_true, Bool.not_eq_true'] at h4
    refine ⟨o, rfl, fun e he hb => ?_⟩
    rcases h4 e he with h5 | h5
    · rw [hb] at h5; cases h5
    · exact h5

theorem all_listed (h : AnyOK P ops σ us depth) {listed : Array Bool} (hs : listed.size = ops.size) (hr : Region.ready .any ops listed = []) : ∀ i, i < ops.size → listed.getD i false = true := by
  intro i
  induction i using Nat.strongRecOn with
  | _ i ih =>
    intro hi
    cases hl : listed.getD i false with
    | true => rfl
    | false =>
      exfalso
      have hm : i ∈ Region.ready .any ops listed := by
        unfold Region.ready
        refine List.mem_filter.2 ⟨List.mem_range.2 hi, ?_⟩
        have ho : ops[i]? = some ops[i] := Array.getElem?_eq_getElem hi
        have ha := h.after
        simp only [afterOK, List.all_eq_true, List.mem_range] at ha
        have hai := ha i hi
        rw [ho] at hai
        simp only [List.all_eq_true, Bool.or_eq_true, Bool.not_eq_true', decide_eq_true_eq] at hai
        have hl' : listed.getD i true = false := by
          rw [Array.getD_eq_getD_getElem?] at hl ⊢
          rw [Array.getElem?_eq_getElem (by omega)] at hl ⊢
          exact hl
        rw [hl', ho]
        simp only [Bool.not_false, Bool.true_and, Option.map_some, Option.getD_some, Array.all_eq_true_iff_forall_mem, Bool.or_eq_true, Bool.not_eq_true']
        intro e he
        rcases hai e (by simpa using he) with h5 | h5
        · exact .inl h5
        · exact .inr (ih e.on h5 (by omega))
      rw [hr] at hm; cases hm

theorem count_one {i : Nat} {f : Nat → Bool} (hf : f i = true) : ∀ {l : List Nat}, l.Nodup → i ∈ l → (l.filter fun j => f j && j != i).length + 1 = (l.filter f).length
  | [], _, h => by cases h
  | a :: l, hn, h => by
    obtain ⟨h1, h2⟩ := List.nodup_cons.1 hn
    by_cases e : a = i
    · subst e
      have : l.filter (fun j => f j && j != a) = l.filter f := List.filter_congr fun j hj => by
        have : j ≠ a := fun e => h1 (e ▸ hj)
        simp [this]
      rw [List.filter_cons_of_neg (by simp), List.filter_cons_of_pos hf, this]; rfl
    · have hm : i ∈ l := (List.mem_cons.1 h).resolve_left (fun q => e q.symm)
      have ih := count_one hf h2 hm
      cases hfa : f a with
      | true => rw [List.filter_cons_of_pos (by simp [hfa, e]), List.filter_cons_of_pos hfa]; simp only [List.length_cons]; omega
      | false => rw [List.filter_cons_of_neg (by simp [hfa]), List.filter_cons_of_neg (by simp [hfa])]; exact ih

theorem ops_any (h : AnyOK P ops σ us depth) (hQ : ∀ a' w', RS k n L0 (foldP ops us.zipIdx σ) a' w' → Q .normal a' w') : ∀ (fuel : Nat) (listed : Array Bool) (a : Act) (w : World),
    listed.size = ops.size → (∀ i o e, ops[i]? = some o → e ∈ o.after → Region.binds .any e = true → listed.getD i false = true → listed.getD e.on false = true) →
    ((List.range ops.size).filter fun i => !listed.getD i false).length = fuel →
    RSb k n L0 (bdL σ.h.length us listed) (tau ops us σ listed) a w → wpAny P .any ops Q fuel listed a w := by
  have done : ∀ (listed : Array Bool) (a : Act) (w : World), (∀ i, i < ops.size → listed.getD i false = true) → RSb k n L0 (bdL σ.h.length us listed) (tau ops us σ listed) a w → Q .normal a w := by
    intro listed a w hall hrs
    refine hQ _ _ ?_
    have e : us.zipIdx.filter (lst listed) = us.zipIdx := List.filter_eq_self.2 fun p hp => by
      have := (List.getElem?_eq_some_iff.1 (zip_get hp)).1
      exact hall _ (by rw [← h.len]; exact this)
    unfold tau at hrs
    rw [e] at hrs
    obtain ⟨g1, g2⟩ := foldP_h ops us.zipIdx σ
    refine hrs.congr (fun _ => rfl) (fun _ => rfl) rfl (fun x hx => ?_)
    rcases hx with hx | ⟨p, hp, hx⟩
    · exact Nat.lt_of_lt_of_le hx g1
    · exact g2 p (List.mem_filter.1 hp).1 x hx
  intro fuel
  induction fuel with
  | zero =>
    intro listed a w hs hc hcount hrs
    have hz : True → ∀ i, i < ops.size → listed.getD i false = true := fun _ i hi => by
      have := List.filter_eq_nil_iff.1 (List.length_eq_zero_iff.1 hcount) i (List.mem_range.2 hi)
      simpa using this
    refine ⟨?_, done listed a w (hz trivial) hrs⟩
    cases hrd : Region.ready .any ops listed with
    | nil => rfl
    | cons i r =>
      exfalso
      obtain ⟨h1, o, h2, _⟩ := mem_ready (md := .any) (ops := ops) (listed := listed) (i := i) (by rw [hrd]; simp)
      have hi : i < ops.size := (Array.getElem?_eq_some_iff.1 h2).1
      have := hz trivial i hi
      rw [Array.getD_eq_getD_getElem?, Array.getElem?_eq_getElem (by omega)] at h1 this
      simp at h1 this
      rw [h1] at this; cases this
  | succ fuel ih =>
    intro listed a w hs hc hcount hrs
    refine ⟨fun hr => done listed a w (all_listed h hs hr) hrs, fun i hi => ?_⟩
    obtain ⟨hl, o, ho, hrd⟩ := mem_ready hi
    have hi : i < ops.size := (Array.getElem?_eq_some_iff.1 ho).1
    have hl' : listed.getD i false = false := by
      rw [Array.getD_eq_getD_getElem?, Array.getElem?_eq_getElem (by omega)] at hl ⊢; exact hl
    have hu : us[i]? = some (us[i]'(by rw [h.len]; exact hi)) := List.getElem?_eq_getElem _
    generalize us[i]'(by rw [h.len]; exact hi) = u at hu
    -- before `i` and behind it
    have before : ∀ p ∈ us.zipIdx, p.2 < i → ¬ (listed.getD p.2 false = true) → (fpT ops (foldP ops (us.zipIdx.take p.2) σ) p.2 p.1).apart (fpT ops (foldP ops (us.zipIdx.take i) σ) i u) = true := fun p hp hlt hn =>
      (h.pair hlt (zip_get hp) hu).resolve_right fun hb => hn (bef_ready hc hb ho hrd)
    have behind : ∀ p ∈ us.zipIdx, i < p.2 → listed.getD p.2 false = true → (fpT ops (foldP ops (us.zipIdx.take i) σ) i u).apart (fpT ops (foldP ops (us.zipIdx.take p.2) σ) p.2 p.1) = true := fun p hp hlt hn =>
      (h.pair hlt hu (zip_get hp)).resolve_right fun hb => by have := bef_closed hc hb hn; rw [hl'] at this; cases this
    have fpi : fpT ops (foldP ops (us.zipIdx.take i) σ) i u = ⟨tmpsR ops o, o.dst.toList, nodesR (foldP ops (us.zipIdx.take i) σ) o, u.2.map (·.1)⟩ := by simp [fpT, ho]
    have fpw : ∀ (p : PU) τ, (∀ t, dstOf ops p.2 = some t → t ∈ (fpT ops τ p.2 p.1).tw) ∧ ((∃ o, ops[p.2]? = some o) → (fpT ops τ p.2 p.1).nw = p.1.2.map (·.1)) := fun p τ => by
      refine ⟨fun t ht => ?_, fun ⟨o', ho'⟩ => by simp [fpT, ho']⟩
      unfold dstOf at ht
      cases hq : ops[p.2]? with
      | none => rw [hq] at ht; simp at ht
      | some o' => rw [hq] at ht; simp at ht; simp [fpT, hq, ht]
    have pin : ∀ p ∈ us.zipIdx, ∃ o, ops[p.2]? = some o := fun p hp => by
      have := (List.getElem?_eq_some_iff.1 (zip_get hp)).1
      exact ⟨_, Array.getElem?_eq_getElem (by rw [← h.len]; exact this)⟩
    refine h.op i u hu k n L0 (bdL σ.h.length us listed) (tau ops us σ listed) a w Q _ hrs (fun o' ho' => ?_) (fun j hj => ?_) (fun a' w' h' => ?_)
    · rw [ho] at ho'
      obtain rfl := Option.some.inj ho'
      refine ⟨fun t ht => tv_fold' ops t σ (kind_before hu hl' _ (fun p hp hlt hg => ?_) (fun p hp hgt hg => ?_)), fun x hx => nd_fold' ops x σ (kind_before hu hl' _ (fun p hp hlt hg => ?_) (fun p hp hgt hg => ?_))⟩
      · refine Classical.byContradiction fun hn => ?_
        have := (apart_tw (before p hp hlt hn)).1 t ((fpw p _).1 t (by simpa [Wt] using hg))
        rw [fpi] at this; exact this.1 ht
      · refine Bool.eq_false_iff.2 fun hn => ?_
        have := apart_tw (behind p hp hgt hn)
        rw [fpi] at this
        exact this.2.1 t ht ((fpw p _).1 t (by simpa [Wt] using hg))
      · refine Classical.byContradiction fun hn => ?_
        have := (apart_tw (before p hp hlt hn)).2.2.1 x (by rw [(fpw p _).2 (pin p hp)]; exact List.contains_iff_mem.1 hg)
        rw [fpi] at this; exact this.1 hx
      · refine Bool.eq_false_iff.2 fun hn => ?_
        have := apart_tw (behind p hp hgt hn)
        rw [fpi] at this
        exact this.2.2.2 x hx (by rw [(fpw p _).2 (pin p hp)]; exact List.contains_iff_mem.1 hg)
    · have nofr : ∀ p ∈ us.zipIdx.filter (lst listed), σ.h.length + 16 * i + j ∉ p.1.2.map (·.1) := fun p hp hx => by
        obtain ⟨hp1, hp2⟩ := List.mem_filter.1 hp
        have e16 : (σ.h.length + 16 * i + j - σ.h.length) / 16 = i := by omega
        rcases h.id hp1 hx with h1 | h1 | h1
        · omega
        · rw [e16] at h1; unfold lst at hp2; rw [← h1, hl'] at hp2; cases hp2
        · rw [e16] at h1; have := bef_closed hc h1 hp2; rw [hl'] at this; cases this
      refine ⟨?_, fun hb => ?_⟩
      · unfold tau
        rw [nd_fold' (qs := []) ops _ σ (by
          rw [List.filter_nil]
          exact filter_off fun p hp => Bool.eq_false_iff.2 fun hc' => nofr p hp (List.contains_iff_mem.1 hc'))]
        exact nd_none (by show σ.h.length ≤ _; omega)
      · rcases hb with hb | ⟨p, hp, hx⟩
        · omega
        · exact nofr p hp hx
    · refine ih (listed.setIfInBounds i true) a' w' (by simpa using hs) ?_ ?_ ?_
      · intro x o' e ho' he hb hx
        rw [getD_set (by omega)] at hx ⊢
        by_cases ex : x = i
        · subst ex
          rw [ho] at ho'
          obtain rfl := Option.some.inj ho'
          split
          · rfl
          · exact hrd e he hb
        · rw [if_neg ex] at hx
          split
          · rfl
          · exact hc x o' e ho' he hb hx
      · have hc1 := count_one (i := i) (f := fun j => !listed.getD j false) (by simp only [hl']; rfl) List.nodup_range (List.mem_range.2 hi)
        rw [hcount] at hc1
        rw [← Nat.succ.inj hc1]
        congr 1
        refine List.filter_congr fun j _ => ?_
        rw [getD_set (by omega)]
        by_cases e : j = i
        · simp [e]
        · simp [e]
      · unfold tau at h' ⊢
        rw [show (foldP ops (us.zipIdx.filter (lst listed)) σ).app ((ops[i]?).bind (·.dst)) u.1 u.2 = foldP ops (us.zipIdx.filter (lst listed) ++ [(u, i)]) σ by rw [foldP_append]; rfl] at h'
        refine h'.congr (fun t => tv_fold' ops t σ (kind_more hu (by omega) hl' _ (fun hg p hp hgt hgp => ?_))) (fun x => nd_fold' ops x σ (kind_more hu (by omega) hl' _ (fun hg p hp hgt hgp => ?_))) (by rw [foldP_len, foldP_len]) (fun x hx => ?_)
        · refine Bool.eq_false_iff.2 fun hn => ?_
          have := (apart_tw (behind p hp hgt hn)).1 t ((fpw (u, i) _).1 t (by simpa [Wt] using hg))
          exact this.2 ((fpw p _).1 t (by simpa [Wt] using hgp))
        · refine Bool.eq_false_iff.2 fun hn => ?_
          have := (apart_tw (behind p hp hgt hn)).2.2.1 x (by rw [fpi]; exact List.contains_iff_mem.1 hg)
          exact this.2 (by rw [(fpw p _).2 (pin p hp)]; exact List.contains_iff_mem.1 hgp)
        · have hmem : (u, i) ∈ us.zipIdx.filter (lst (listed.setIfInBounds i true)) := List.mem_filter.2 ⟨List.mem_zipIdx_iff_getElem?.2 hu, by unfold lst; rw [getD_set (by omega)]; simp⟩
          rcases hx with hx | hx
          · rcases hx with hx | ⟨p, hp, hx⟩
            · exact .inl hx
            · obtain ⟨hp1, hp2⟩ := List.mem_filter.1 hp
              refine .inr ⟨p, List.mem_filter.2 ⟨hp1, ?_⟩, hx⟩
              unfold lst at hp2 ⊢
              rw [getD_set (by omega)]
              split
              · rfl
              · exact hp2
          · exact .inr ⟨(u, i), hmem, hx⟩

end
end

section
open Go Go.RowKit

def exitOf : Out → Exit
  | .norm => .normal
  | .exit n => .exit n
  | .ret => .ret

def CodeOK (P : Program) (n : Nat) (c : Code) (σ : St) (out : Out) (σ' : St) : Prop :=
  ∀ (k : Base) (L0 : Nat → Nat × Nat) (a : Act) (w : World) (Q : Exit → Act → World → Prop), RS k n L0 σ a w → (∀ a' w', RS k n L0 σ' a' w' → Q (exitOf out) a' w') → c.wp P Q a w

def LoopOK (P : Program) (n : Nat) (c : Code) (σ : St) (out : Out) (σ' : St) : Prop :=
  ∃ m, ∀ (k : Base) (L0 : Nat → Nat × Nat) (a : Act) (w : World) (Q : Exit → Act → World → Prop), RS k n L0 σ a w → (∀ a' w', RS k n L0 σ' a' w' → Q (match out with | .exit n => .exit n | .ret => .ret | .norm => .normal) a' w') → out ≠ .norm → Code.rounds P c Q m a w

def Good (P : Program) : J → Prop
  | .op nid ops i σ r l => OpOK P nid ops i σ r l
  | .ops base ops is σ σ' us => OpsOK P base ops is σ σ' us
  | .reg n ops is σ σ' => RegOK P n ops is σ σ'
  | .code n c σ out σ' => CodeOK P n c σ out σ'
  | .loop n c σ out σ' => LoopOK P n c σ out σ' ∧ out ≠ .norm
  | .call f as vals outs => CallOK P f as vals outs

variable {P : Program} {X : FuncId → List Arg → List (Bool × List Cell) → List (Option (List Cell)) → Prop}

theorem init_ok {k : Base} {L0 : Nat → Nat × Nat} {F0 : Nat → List Nat} {as : List Arg} {vs : Array Value} {ntmps : Nat} (hsz : vs.size ≤ as.length ∧ (noEx as = true → vs.size = as.length)) (hx : (noEx as || Nat.ble as.length ntmps) = true) (m : Mem k (ndOf (as.map Arg.node)) k.w0 L0 F0 (· < as.length))
    (hv : ∀ i, RTV (SS k (ndOf (as.map Arg.node)) L0 F0 k.w0) (· < as.length) L0 k.w0 (vs.getD i undef) ((argTVs 0 as).getD i .undef)) :
    RS k as.length L0 (initS as ntmps) { tmps := vs ++ Array.replicate (ntmps - vs.size) undef, defers := [] } k.w0 := by
  have hlen : ∀ (as : List Arg) j, (argTVs j as).length = as.length := by
    intro as
    induction as with
    | nil => intro j; rfl
    | cons a as ih => intro j; simp [argTVs, ih]
  refine ⟨⟨L0, F0, (· < as.length), m, fun i => ?_, fun i hi => by show i < (as.map Arg.node).length; simpa using hi, fun i hi => ⟨hi, rfl⟩⟩, ?_, rfl⟩
  · have := hv i
    show RTV _ _ _ _ ((vs ++ Array.replicate (ntmps - vs.size) undef).getD i undef) ((argTVs 0 as ++ List.replicate (ntmps - as.length) TV.undef).getD i .undef)
    by_cases hi : i < as.length
    · rw [Array.getD_eq_getD_getElem?] at this ⊢
      rw [List.getD_eq_getElem?_getD] at this ⊢
      rw [List.getElem?_append_left (by rw [hlen]; exact hi)]
      by_cases hj : i < vs.size
      · rw [Array.getElem?_append_left hj]; exact this
      · rw [Array.getElem?_eq_none (by omega)] at this
        rw [Array.getElem?_append_right (by omega), Array.getElem?_replicate]
        split <;> exact this
    · rw [List.getD_eq_getElem?_getD, List.getElem?_append_right (by rw [hlen]; omega), List.getElem?_replicate]
      split <;> exact trivial
  · simp only [initS, List.length_append, hlen, List.length_replicate, Array.size_append, Array.size_replicate]
    cases e : noEx as with
    | true => have := hsz.2 e; omega
    | false => rw [e, Bool.false_or] at hx; have := Nat.le_of_ble_eq_true hx; omega

theorem sound (hm : P.follows .mixedOrders = true) (hX : ∀ f as vals outs, X f as vals outs → CallOK P f as vals outs) {j : J} (h : D P X j) : Good P j := by
  induction h with
  | opSkip ho hg => exact opSkip_ok ho hg
  | opEff ho hg he => exact opEff_ok ho hg he
  | opCall ho hg hop hen hargs hnd hdis _ hpure hcnt ih => exact opCall_ok ho hg hop hen hargs hnd hdis ih hpure hcnt
  | opsNil => exact ⟨rfl, rfl⟩
  | opsCons _ _ ih1 ih2 => exact ⟨ih1, ih2⟩
  | skip => exact fun k L0 a w Q hrs hQ => wp_skip (hQ _ _ hrs)
  | ret => exact fun k L0 a w Q hrs hQ => wp_ret (hQ _ _ hrs)
  | exit => exact fun k L0 a w Q hrs hQ => wp_exit (hQ _ _ hrs)
  | regNil => exact fun k L0 a w Q hrs hQ => hQ _ _ hrs
  | regCons _ _ ih1 ih2 => exact reg_cons ih1 ih2
  | regGh hg _ ih => exact fun k L0 a w Q hrs hQ => ih k L0 a w Q (hg k L0 a w hrs) hQ
  | region _ ih => exact fun k L0 a w Q hrs hQ => wp_region (ih k L0 a w _ hrs hQ)
  | @draws n id ops σ σ' us depth _ ho hi ha ih =>
    intro k L0 a w Q hrs hQ
    have ih' : OpsOK P (some σ.h.length) ops (List.range' 0 ops.size) σ σ' us := by rw [← List.range_eq_range']; exact ih
    obtain ⟨g1, g2, g3⟩ := opsOK_get ih'
    have hany : AnyOK P ops σ us depth := ⟨g1, fun j u hu => by have := g3 j u hu; rw [Nat.zero_add] at this; exact this, ho, hi, ha⟩
    refine wp_region_any hm (ops_any hany (by rw [← g2]; exact hQ) _ _ _ _ (by simp) ?_ ?_ ?_)
    · intro i o e _ _ _ hl
      simp [Array.getD_eq_getD_getElem?, Array.getElem?_replicate] at hl
      split at hl <;> cases hl
    · rw [List.filter_eq_self.2 (fun i hi => by simp [Array.getD_eq_getD_getElem?, Array.getElem?_replicate]; split <;> rfl)]; simp
    · have e : us.zipIdx.filter (lst (Array.replicate ops.size false)) = [] := List.filter_eq_nil_iff.2 fun p _ => by
        simp [lst, Array.getD_eq_getD_getElem?, Array.getElem?_replicate]; split <;> simp
      obtain ⟨⟨L, F, U, m, h1, h2, h3⟩, h4, h5⟩ := hrs
      obtain ⟨m', mo⟩ := m.same (w' := { w with drawn := w.drawn + 1 }) rfl rfl rfl rfl
      refine ⟨⟨L, F, U, ?_, fun i => ?_, fun i hi => .inl (h2 i hi), h3⟩, ?_, h5⟩
      · unfold tau; rw [e]; exact m'
      · unfold tau; rw [e]; exact mo.rtv (h1 i)
      · unfold tau; rw [e]; exact h4
  | seq _ _ ih1 ih2 => exact fun k L0 a w Q hrs hQ => wp_seq (ih1 k L0 a w _ hrs fun a' w' h' => ih2 k L0 a' w' Q h' hQ)
  | @seqOut n a b σ out σ' _ hne ih =>
    intro k L0 a w Q hrs hQ
    refine wp_seq (ih k L0 a w _ hrs fun a' w' h' => ?_)
    have := hQ a' w' h'
    cases out with
    | norm => exact absurd rfl hne
    | exit m => exact this
    | ret => exact this
  | @cond n c a b σ t out σ' hc _ ih =>
    intro k L0 a w Q hrs hQ
    obtain ⟨L, F, U, m, ht, _, _⟩ := hrs.ex
    have := evT_rtv ht c
    rw [hc] at this
    have hv : ∃ G : List Nat, Rep (SS k σ.nd L F w) U L w [a.eval c] [.prim (.bool t)] G := ⟨_, this⟩
    obtain ⟨G, hv⟩ := hv
    generalize hq : a.eval c = q at hv
    cases hv with
    | prim _ _ => exact wp_cond hq (ih k L0 a w Q hrs hQ)
  | @block n id c σ out σ' _ ih =>
    intro k L0 a w Q hrs hQ
    refine wp_block (ih k L0 a w _ hrs fun a' w' h' => ?_)
    have := hQ a' w' h'
    cases out with
    | norm => exact this
    | ret => exact this
    | exit m =>
      show if m = id then _ else _
      simp only [outBlock] at this
      split
      · rename_i e; rw [if_pos e] at this; exact this
      · rename_i e; rw [if_neg e] at this; exact this
  | @loop n c σ out σ' _ ih =>
    obtain ⟨⟨m, ih⟩, hne⟩ := ih
    intro k L0 a w Q hrs hQ
    refine wp_loop_rounds m (ih k L0 a w Q hrs (fun a' w' h' => ?_) hne)
    have := hQ a' w' h'
    cases out <;> exact this
  | @loopGo n c σ σ' out σ'' _ _ ih1 ih2 =>
    obtain ⟨⟨m, ih2⟩, hne⟩ := ih2
    refine ⟨⟨m + 1, fun k L0 a w Q hrs hQ _ => ?_⟩, hne⟩
    rw [rounds_succ]
    exact ih1 k L0 a w _ hrs fun a' w' h' => ih2 k L0 a' w' Q h' hQ hne
  | @loopEnd n c σ out σ' _ hne ih =>
    refine ⟨⟨1, fun k L0 a w Q hrs hQ _ => ?_⟩, hne⟩
    rw [rounds_succ]
    refine ih k L0 a w _ hrs fun a' w' h' => ?_
    have := hQ a' w' h'
    cases out with
    | norm => exact absurd rfl hne
    | exit m => exact this
    | ret => exact this
  | ghost hg _ ih => exact fun k L0 a w Q hrs hQ => ih k L0 a w Q (hg k L0 a w hrs) hQ
  | ghostL hg _ ih =>
    obtain ⟨⟨m, ih⟩, hne⟩ := ih
    exact ⟨⟨m, fun k L0 a w Q hrs hQ h => ih k L0 a w Q (hg k L0 a w hrs) hQ h⟩, hne⟩
  | ghostE _ hg ih => exact fun k L0 a w Q hrs hQ => ih k L0 a w Q hrs fun a' w' h' => hQ a' w' (hg k L0 a' w' h')
  | @call f fn c as out σ vals outs zs hf hb hex _ hout hfin ih =>
    intro k L0 F0 vs hsz m hv
    refine calls_of_wp hf hb (ih k L0 _ _ _ (init_ok hsz hex m hv) fun a' w' h' => ?_)
    obtain ⟨v, h1, h2⟩ := fin_ok (P := P) h' rfl hfin
    rcases hout with rfl | rfl
    · exact ⟨h'.defers, v, h1, v, rfl, h2⟩
    · exact ⟨h'.defers, v, h1, v, rfl, h2⟩
  | ext hx => exact hX _ _ _ _ hx
end

section
open Go Go.RowKit

/-! ### New numbers for nodes; what is not led to goes -/

def lastIx : List Nat → Nat → Option Nat
  | [], _ => none
  | a :: l, x => match lastIx l x with
    | some j => some (j + 1)
    | none => match Nat.beq a x with
      | true => some 0
      | false => none

def renC (ρ : List Nat) : Cell → Cell
  | .ref id off n s => match lastIx ρ id with
    | some j => .ref j off n s
    | none => .dead
  | .ptr id off => match lastIx ρ id with
    | some j => .ptr j off
    | none => .dead
  | c => c

def renTV (ρ : List Nat) : TV → TV
  | .v b l => .v b (l.map (renC ρ))
  | .tup l => .tup (l.map fun p => (p.1, p.2.map (renC ρ)))
  | .undef => .undef

theorem idxOf_some : ∀ {l : List Nat} {x j : Nat}, lastIx l x = some j → l[j]? = some x
  | [], _, _, h => by simp [lastIx] at h
  | a :: l, x, j, h => by
    unfold lastIx at h
    split at h
    · rename_i i e
      obtain rfl := Option.some.inj h
      exact (show l[i]? = some x from idxOf_some e)
    · split at h
      · rename_i e
        obtain rfl := Option.some.inj h
        rw [Nat.eq_of_beq_eq_true e]; rfl
      · cases h

section

variable {k : Base} {h : Nat → Option Node} {w : World} {L : Nat → Nat × Nat} {F : Nat → List Nat} {U : Nat → Prop}

theorem ren_rep {S S' U' : Nat → Prop} {L' : Nat → Nat × Nat} {ρ : List Nat} (hS : ∀ b, S b → S' b) (hU : ∀ j id, ρ[j]? = some id → U id → U' j ∧ L' j = L id) {vs : List Value} {cs : List Cell} {G : List Nat}
    (hr : Rep S U L w vs cs G) : Rep S' U' L' w vs (cs.map (renC ρ)) G := by
  induction hr with
  | nil => exact .nil
  | prim h1 _ ih => exact .prim h1 ih
  | nils _ ih => exact .nils ih
  | ro h1 h2 h3 h4 hc h5 _ _ ih => exact .ro (fun e => hS _ (h1 e)) h2 h3 h4 hc ((rep_sub h5 hS).free hc) ih
  | own h1 h2 h3 h4 hc hz h5 _ _ ih => exact .own h1 h2 h3 h4 hc hz ((rep_sub h5 hS).free hc) ih
  | ro0 h1 _ ih => exact .ro0 h1 ih
  | own0 h1 _ ih => exact .own0 h1 ih
  | @ref id off n s cap vs cs F h1 h2 h3 hz _ ih =>
    simp only [List.map_cons, renC]
    split
    · rename_i j e
      obtain ⟨g1, g2⟩ := hU j id (idxOf_some e) h1
      have := @Rep.ref S' U' L' w j off n s cap vs (cs.map (renC ρ)) F g1 (by rw [g2]; exact h2) h3 hz ih
      rw [g2] at this; exact this
    · exact .dead rfl ih
  | @ref0 p id off s vs cs F h1 h2 _ ih =>
    simp only [List.map_cons, renC]
    split
    · rename_i j e
      exact .ref0 (hU j id (idxOf_some e) h1).1 h2 ih
    · exact .dead rfl ih
  | @ptr id off vs cs F h1 _ ih =>
    simp only [List.map_cons, renC]
    split
    · rename_i j e
      obtain ⟨g1, g2⟩ := hU j id (idxOf_some e) h1
      have := @Rep.ptr S' U' L' w j off vs (cs.map (renC ρ)) F g1 ih
      rw [g2] at this; exact this
    · exact .dead rfl ih
  | rop h1 h4 hc h5 _ _ ih => exact .rop (fun e => hS _ (h1 e)) h4 hc ((rep_sub h5 hS).free hc) ih
  | ownp h1 h4 hc hz h5 _ _ ih => exact .ownp h1 h4 hc hz ((rep_sub h5 hS).free hc) ih
  | dead h1 _ ih => exact .dead h1 ih

theorem ren_rv {S S' U' : Nat → Prop} {L' : Nat → Nat × Nat} {ρ : List Nat} (hS : ∀ b, S b → S' b) (hU : ∀ j id, ρ[j]? = some id → U id → U' j ∧ L' j = L id) {x : Value} {b : Bool} {l : List Cell}
    (hr : RV S U L w x (b, l)) : RV S' U' L' w x (b, l.map (renC ρ)) := by
  cases b with
  | false => exact ren_rep hS hU hr
  | true => obtain ⟨vs, e, hr⟩ := hr; exact ⟨vs, e, ren_rep hS hU hr⟩

theorem ren_rtv {S S' U' : Nat → Prop} {L' : Nat → Nat × Nat} {ρ : List Nat} (hS : ∀ b, S b → S' b) (hU : ∀ j id, ρ[j]? = some id → U id → U' j ∧ L' j = L id) {x : Value} {tv : TV}
    (hr : RTV S U L w x tv) : RTV S' U' L' w x (renTV ρ tv) := by
  cases tv with
  | v b l => exact ren_rv hS hU hr
  | undef => trivial
  | tup l =>
    obtain ⟨xs, e, hl, hr⟩ := hr
    refine ⟨xs, e, by simpa using hl, fun i y c h1 h2 => ?_⟩
    rw [List.getElem?_map] at h2
    cases hq : l[i]? with
    | none => rw [hq] at h2; simp at h2
    | some q =>
      rw [hq] at h2
      obtain rfl := Option.some.inj h2
      exact ren_rv hS hU (hr i y q h1 hq)

theorem gh_ren {n : Nat} {σ σ' : St} (ρ : List (Nat × Bool)) (hn : (ρ.take n).map (·.1) = List.range n) (hd : ∀ (i j : Nat) nd nd' p q, σ'.nd i = some nd → σ'.nd j = some nd' → ρ[i]? = some p → ρ[j]? = some q → p.1 = q.1 → i = j)
    (hnd : ∀ j nd, σ'.nd j = some nd → ∃ p cs, ρ[j]? = some p ∧ σ.nd p.1 = some (nd.1, cs) ∧ nd.2 = (if p.2 then cs.map (renC (ρ.map (·.1))) else cs) ∧ (p.2 = false → closedL cs = true))
    (htv : ∀ i, σ'.tv i = .undef ∨ σ'.tv i = renTV (ρ.map (·.1)) (σ.tv i)) (hlt : σ'.t.length = σ.t.length) (hlh : σ'.h.length = ρ.length) : Gh n σ σ' := by
  intro k L0 a w hrs
  obtain ⟨⟨L, F, U, m, ht, hU, hnn⟩, hlen, hdf⟩ := hrs
  let L' : Nat → Nat × Nat := fun j => match ρ[j]? with | some p => L p.1 | none => (0, 0)
  let F' : Nat → List Nat := fun j => match ρ[j]? with | some p => F p.1 | none => []
  let U' : Nat → Prop := fun j => ∃ p, ρ[j]? = some p ∧ U p.1
  have hneq : ∀ p : Nat × Bool, ∀ cs : List Cell, (if p.2 then cs.map (renC (ρ.map (·.1))) else cs) ≠ [] ↔ cs ≠ [] := fun p cs => by split <;> simp
  have own : ∀ j, Own σ'.nd L' F' j = [] ∨ ∃ p, ρ[j]? = some p ∧ Own σ'.nd L' F' j = Own σ.nd L F p.1 ∧ ∃ nd, σ'.nd j = some nd := by
    intro j
    cases hj : σ'.nd j with
    | none => left; simp [Own, hj]
    | some nd =>
      obtain ⟨p, cs, h1, h2, h3, hsh⟩ := hnd j nd hj
      obtain ⟨o, cs'⟩ := nd
      simp only at h2 h3
      refine .inr ⟨p, h1, ?_, _, rfl⟩
      cases o with
      | false => simp [Own, hj, h2]
      | true =>
        rw [own_of hj, own_of h2]
        simp only [L', F', h1]
        by_cases hz : cs = []
        · subst hz
          have : cs' = [] := by rw [h3]; split <;> rfl
          rw [this]
        · rw [OB_ne hz, OB_ne (by rw [h3]; exact (hneq p cs).2 hz)]
  have hS : ∀ b, SS k σ.nd L F w b → SS k σ'.nd L' F' w b := fun b hb => ⟨hb.1, hb.2.1, fun j hj => by
    rcases own j with e | ⟨p, _, e, _⟩
    · rw [e] at hj; cases hj
    · rw [e] at hj; exact hb.2.2 _ hj⟩
  have hUU : ∀ j id, (ρ.map (·.1))[j]? = some id → U id → U' j ∧ L' j = L id := fun j id hj hu => by
    rw [List.getElem?_map] at hj
    cases hq : ρ[j]? with
    | none => rw [hq] at hj; simp at hj
    | some p =>
      rw [hq] at hj
      obtain rfl := Option.some.inj hj
      exact ⟨⟨p, hq, hu⟩, by simp [L', hq]⟩
  refine ⟨⟨L', F', U', ⟨m.S0lt, m.B0lt, fun j nd hj => ?_, fun j => ?_, fun i j hij b hb hc => ?_, fun j b hb => ?_, m.frame, m.os, m.tape, m.output, m.grows, m.gv⟩, fun i => ?_, fun j hj => ?_, fun i hi => ?_⟩, ?_, hdf⟩
  · obtain ⟨p, cs, h1, h2, h3, hsh⟩ := hnd j nd hj
    obtain ⟨hu, us, g1, g2, g3, g4⟩ := m.node _ _ h2
    simp only at g2 g3 g4
    have eL : L' j = L p.1 := by simp [L', h1]
    have eF : F' j = F p.1 := by simp [F', h1]
    rw [eL, eF, h3]
    refine ⟨⟨p, h1, hu⟩, us, g1, ?_, fun hne => g3 ((hneq p cs).1 hne), fun e => ⟨(g4 e).1, fun hne => hS _ ((g4 e).2 ((hneq p cs).1 hne))⟩⟩
    split
    · exact ren_rep hS hUU g2
    · rename_i hf
      exact (rep_sub g2 hS).free (hsh (by simpa using hf))
  · rcases own j with e | ⟨p, _, e, _⟩
    · rw [e]; exact List.nodup_nil
    · rw [e]; exact m.nodup _
  · rcases own i with e | ⟨p, e1, e, nd1, k1⟩
    · rw [e] at hb; cases hb
    · rcases own j with e' | ⟨q, e2, e', nd2, k2⟩
      · rw [e'] at hc; cases hc
      · rw [e] at hb; rw [e'] at hc
        exact m.disj p.1 q.1 (fun e3 => hij (hd i j _ _ p q k1 k2 e1 e2 e3)) b hb hc
  · rcases own j with e | ⟨p, _, e, _⟩
    · rw [e] at hb; cases hb
    · rw [e] at hb; exact m.inB _ b hb
  · have := htv i
    rcases this with e | e
    · rw [e]; trivial
    · rw [e]; exact ren_rtv hS hUU (ht i)
  · obtain ⟨p, hp, _⟩ := hj
    show j < σ'.h.length
    rw [hlh]; exact (List.getElem?_eq_some_iff.1 hp).1
  · have h1 : ((ρ.take n).map (·.1))[i]? = some i := by rw [hn]; simp [hi]
    rw [List.getElem?_map, List.getElem?_take] at h1
    rw [if_pos hi] at h1
    cases hq : ρ[i]? with
    | none => rw [hq] at h1; simp at h1
    | some p =>
      rw [hq] at h1
      have e : p.1 = i := Option.some.inj h1
      obtain ⟨g1, g2⟩ := hnn i hi
      exact ⟨⟨p, hq, by rw [e]; exact g1⟩, by simp [L', hq, e, g2]⟩
  · rw [hlt]; exact hlen

/-! ### Parts of nodes -/

theorem rs_of {n : Nat} {σ τ : St} {k : Base} {L0 : Nat → Nat × Nat} {a : Act} {w : World} {L F U L' F' U'} (ht : ∀ i, RTV (SS k σ.nd L F w) U L w (a.tmps.getD i undef) (σ.tv i)) (hnn : ∀ i, i < n → U i ∧ L i = L0 i) (hlen : σ.t.length ≤ a.tmps.size) (hd : a.defers = [])
    (m' : Mem k τ.nd w L' F' U') (mo : Mono k σ.nd w L F U τ.nd w L' F' U') (htv : τ.t = σ.t) (hU : ∀ i, U' i → i < τ.h.length) : RS k n L0 τ a w :=
  ⟨⟨L', F', U', m', fun i => by have := mo.rtv (ht i); unfold St.tv at this ⊢; rw [htv]; exact this, hU, fun i hi => by
    obtain ⟨h1, h2⟩ := hnn i hi
    obtain ⟨h3, h4⟩ := mo.2.1 i h1
    exact ⟨h3, h4.trans h2⟩⟩, by rw [htv]; exact hlen, hd⟩

theorem gh_freeze {n i : Nat} {σ : St} {cs : List Cell} (hi : σ.nd i = some (true, cs)) : Gh n σ ⟨σ.t, setH σ.h i (some (false, roifyL cs))⟩ := by
  intro k L0 a w hrs
  obtain ⟨⟨L, F, U, m, ht, hU, hnn⟩, hlen, hdf⟩ := hrs
  obtain ⟨F', m', mo⟩ := m.freeze hi
  have e : (⟨σ.t, setH σ.h i (some (false, roifyL cs))⟩ : St).nd = upd σ.nd i (some (false, roifyL cs)) := ndOf_setH _ _ _
  rw [← e] at m' mo
  exact rs_of ht hnn hlen hdf m' mo rfl (fun j hj => by
    show j < (setH σ.h i _).length
    rw [setH_length]; have := hU j hj; omega)

theorem gh_inline {n i j c s : Nat} {σ : St} {A C cs : List Cell} (hij : i ≠ j) (hi : σ.nd i = some (true, A ++ [.ref j 0 c s] ++ C)) (hj : σ.nd j = some (true, cs)) (hs : cs.all Cell.shal = true) (hl : cs.length = c * s) (hsz : s ≠ 0) :
    Gh n σ ⟨σ.t, setH (setH σ.h j none) i (some (true, A ++ [.sl true c s cs] ++ C))⟩ := by
  intro k L0 a w hrs
  obtain ⟨⟨L, F, U, m, ht, hU, hnn⟩, hlen, hdf⟩ := hrs
  obtain ⟨F', m', mo⟩ := m.inline hij hi hj hs hl hsz
  have e : (⟨σ.t, setH (setH σ.h j none) i (some (true, A ++ [.sl true c s cs] ++ C))⟩ : St).nd = upd (upd σ.nd j none) i (some (true, A ++ [.sl true c s cs] ++ C)) := by
    rw [nd_eq]; simp only [ndOf_setH]; rfl
  rw [← e] at m' mo
  exact rs_of ht hnn hlen hdf m' mo rfl (fun x hx => by
    show x < (setH (setH σ.h j none) i _).length
    rw [setH_length, setH_length]; have := hU x hx; omega)

theorem gh_drawOut {n i c s : Nat} {σ : St} {A C cs : List Cell} (hi : σ.nd i = some (true, A ++ [.sl true c s cs] ++ C)) :
    Gh n σ ⟨σ.t, setH (setH σ.h i (some (true, A ++ [.ref σ.h.length 0 c s] ++ C))) σ.h.length (some (true, cs))⟩ := by
  intro k L0 a w hrs
  obtain ⟨⟨L, F, U, m, ht, hU, hnn⟩, hlen, hdf⟩ := hrs
  obtain ⟨L', F', m', mo⟩ := m.drawOut (nid := σ.h.length) hi (nd_none (Nat.le_refl _)) (fun hu => by have := hU _ hu; omega)
  have e : (⟨σ.t, setH (setH σ.h i (some (true, A ++ [.ref σ.h.length 0 c s] ++ C))) σ.h.length (some (true, cs))⟩ : St).nd = upd (upd σ.nd i (some (true, A ++ [.ref σ.h.length 0 c s] ++ C))) σ.h.length (some (true, cs)) := by
    rw [nd_eq]; simp only [ndOf_setH]; rfl
  rw [← e] at m' mo
  exact rs_of ht hnn hlen hdf m' mo rfl (fun x hx => by
    show x < (setH (setH σ.h i _) σ.h.length _).length
    rw [setH_length, setH_length]
    rcases hx with hx | hx
    · have := hU x hx; omega
    · omega)

/-! ### The same, told in other words -/

/-- A cell may be told so, too. -/
inductive CW (h : Nat → Option Node) : Cell → Cell → Prop
  | refl {c} : CW h c c
  | nilR {s} : CW h .nil (.sl false 0 s [])
  | nilO {s} : CW h .nil (.sl true 0 s [])
  | zero {s} : CW h (.sl true 0 s []) (.sl false 0 s [])
  | ref0 {id off s} : CW h (.ref id off 0 s) (.sl false 0 s [])
  | look {id off n s cs} : h id = some (false, cs) → off + n * s ≤ cs.length → ((cs.drop off).take (n * s)).all Cell.shal = true → CW h (.ref id off n s) (.sl false n s ((cs.drop off).take (n * s)))
  | rop {id off cs} : h id = some (false, cs) → cs.all Cell.shal = true → CW h (.ptr id off) (.rop (cs.drop off))
  | deadR {id off n s} : CW h (.ref id off n s) .dead

inductive CWs (h : Nat → Option Node) : List Cell → List Cell → Prop
  | nil : CWs h [] []
  | cons {c c' cs cs'} : CW h c c' → CWs h cs cs' → CWs h (c :: cs) (c' :: cs')

theorem CWs.refl {h : Nat → Option Node} : ∀ cs, CWs h cs cs
  | [] => .nil
  | _ :: cs => .cons .refl (CWs.refl cs)

theorem cw_rep (m : Mem k h w L F U) {x : Value} {c c' : Cell} {G : List Nat} (hr : Rep (SS k h L F w) U L w [x] [c] G) (hc : CW h c c') : Rep (SS k h L F w) U L w [x] [c'] G := by
  cases hc with
  | refl => exact hr
  | nilR => cases hr with | nils hn => exact .ro0 (fun _ => rfl) hn
  | nilO => cases hr with | nils hn => exact .own0 (.inl rfl) hn
  | zero =>
    cases hr with
    | own _ _ _ _ _ hz _ _ => exact absurd rfl hz
    | own0 hp hn => exact ro_zero hp hn
  | ref0 =>
    cases hr with
    | ref _ _ _ hz _ => exact absurd rfl hz
    | ref0 _ hp hn => exact ro_zero hp hn
  | @look id off n s cs hid hle hs =>
    obtain ⟨_, us, g1, g2, g3, g4⟩ := m.node id _ hid
    obtain ⟨g5, g6⟩ := g4 rfl
    simp only at g2
    rw [g5] at g2
    have hl := g2.length
    have hsub := rep_take (n * s) (rep_drop off g2)
    have hcl := hsub.closed hs
    cases hr with
    | ref0 hU hp hnil => simpa using ro_zero (s := s) hp hnil
    | ref hU hW hn hz hnil =>
      exact .ro (us := (us.drop off).take (n * s)) (fun hne => g6 (fun e => hne (by simp only at e; rw [e]; simp))) (by simp; omega) hn (rangeAt_take (rangeAt_drop g1 off) _) hcl hsub hnil
  | @rop id off cs hid hs =>
    obtain ⟨_, us, g1, g2, g3, g4⟩ := m.node id _ hid
    obtain ⟨g5, g6⟩ := g4 rfl
    simp only at g2
    rw [g5] at g2
    have hsub := rep_drop off g2
    have hcl := hsub.closed (List.all_eq_true.2 fun c hc => List.all_eq_true.1 hs c (List.mem_of_mem_drop hc))
    cases hr with
    | ptr hU hnil =>
      exact .rop (us := us.drop off) (fun hne => g6 (fun e => hne (by simp only at e; rw [e]; simp))) (rangeAt_drop g1 off) hcl hsub hnil
  | deadR =>
    cases hr with
    | ref _ _ _ _ hn => exact .dead rfl hn
    | ref0 _ _ hn => exact .dead rfl hn

theorem cws_rep (m : Mem k h w L F U) {cs cs' : List Cell} (hc : CWs h cs cs') : ∀ {vs : List Value} {G : List Nat}, Rep (SS k h L F w) U L w vs cs G → Rep (SS k h L F w) U L w vs cs' G := by
  induction hc with
  | nil => exact fun hr => hr
  | cons h1 _ ih =>
    intro vs G hr
    match vs, hr with
    | [], hr => have := hr.length; simp at this
    | v :: vs, hr =>
      obtain ⟨G1, G2, rfl, r1, r2⟩ := rep_cons hr
      exact (cw_rep m r1 h1).append (ih r2)

inductive TW (h : Nat → Option Node) : TV → TV → Prop
  | v {b l l'} : CWs h l l' → TW h (.v b l) (.v b l')
  | undef {tv} : TW h tv .undef

theorem tw_rtv (m : Mem k h w L F U) {x : Value} {tv tv' : TV} (hr : RTV (SS k h L F w) U L w x tv) (ht : TW h tv tv') : RTV (SS k h L F w) U L w x tv' := by
  cases ht with
  | undef => trivial
  | @v b l l' hc =>
    cases b with
    | false => exact cws_rep m hc hr
    | true => obtain ⟨vs, e, hr⟩ := hr; exact ⟨vs, e, cws_rep m hc hr⟩

/-- A temp, told otherwise. -/
theorem gh_tmp {n : Nat} {σ : St} (i : Nat) {tv' : TV} (ht' : TW σ.nd (σ.tv i) tv') : Gh n σ ⟨σ.t.set i tv', σ.h⟩ := by
  intro k L0 a w hrs
  obtain ⟨⟨L, F, U, m, ht, hU, hnn⟩, hlen, hdf⟩ := hrs
  refine ⟨⟨L, F, U, m, fun j => ?_, hU, hnn⟩, by simpa using hlen, hdf⟩
  show RTV _ _ _ _ _ ((σ.t.set i tv').getD j .undef)
  rw [List.getD_eq_getElem?_getD, List.getElem?_set]
  have hj := ht j
  split
  · rename_i e
    subst e
    split
    · exact tw_rtv m hj ht'
    · trivial
  · unfold St.tv at hj; rw [List.getD_eq_getElem?_getD] at hj; exact hj

/-- A node, told otherwise. -/
theorem gh_node {n : Nat} {σ : St} (i : Nat) {o : Bool} {cs cs' : List Cell} (hi : σ.nd i = some (o, cs)) (hc : CWs σ.nd cs cs') : Gh n σ ⟨σ.t, setH σ.h i (some (o, cs'))⟩ := by
  intro k L0 a w hrs
  obtain ⟨⟨L, F, U, m, ht, hU, hnn⟩, hlen, hdf⟩ := hrs
  have hlc : cs'.length = cs.length := by
    clear hi
    induction hc with
    | nil => rfl
    | cons _ _ ih => simp [ih]
  have hne : cs' ≠ [] ↔ cs ≠ [] := by rw [← List.length_pos_iff, ← List.length_pos_iff, hlc]
  have e : (⟨σ.t, setH σ.h i (some (o, cs'))⟩ : St).nd = upd σ.nd i (some (o, cs')) := ndOf_setH _ _ _
  have hO : ∀ x, Own (upd σ.nd i (some (o, cs'))) L F x = Own σ.nd L F x := fun x => by
    by_cases ex : x = i
    · subst ex
      cases o with
      | false => simp [Own, upd_same, hi]
      | true =>
        rw [own_of (upd_same _ _ _), own_of hi]
        by_cases hz : cs = []
        · subst hz
          have : cs' = [] := List.eq_nil_of_length_eq_zero (by simpa using hlc)
          rw [this]
        · rw [OB_ne hz, OB_ne (hne.2 hz)]
    · simp [Own, upd_other _ _ ex]
  obtain ⟨m', mo⟩ := m.master (h' := upd σ.nd i (some (o, cs'))) (w' := w) (L' := L) (F' := F) (U' := U) (Grows.refl w) rfl rfl rfl (fun x b hb => .inl ⟨x, by rw [hO] at hb; exact hb⟩) (fun x => by rw [hO]; exact m.nodup x)
    (fun x y hxy b hb hc' => by rw [hO] at hb hc'; exact m.disj x y hxy b hb hc') (fun _ _ _ => rfl) (fun _ hx => ⟨hx, rfl⟩)
    (fun mo x nd hx => by
      by_cases ex : x = i
      · subst ex
        rw [upd_same] at hx
        obtain rfl := Option.some.inj hx
        obtain ⟨hu, us, g1, g2, g3, g4⟩ := m.node x _ hi
        simp only at g2 g3 g4
        exact ⟨hu, us, g1, mo.repF (cws_rep m hc g2) (fun _ _ => rfl), fun q => g3 (hne.1 q), fun q => ⟨(g4 q).1, fun q' => (mo.1 _ ((g4 q).2 (hne.1 q'))).1⟩⟩
      · rw [upd_other _ _ ex] at hx
        exact m.keep mo hx rfl (fun _ _ => rfl))
  rw [← e] at m' mo
  exact rs_of ht hnn hlen hdf m' mo rfl (fun j hj => by
    show j < (setH σ.h i _).length
    rw [setH_length]; have := hU j hj; omega)

/-- A nil slice in a temp is a new node without elements. -/
theorem gh_virt {n : Nat} {σ : St} (i s : Nat) (hi : σ.tv i = .v false [.nil]) : Gh n σ ⟨σ.t.set i (.v false [.ref σ.h.length 0 0 s]), setH σ.h σ.h.length (some (true, []))⟩ := by
  intro k L0 a w hrs
  obtain ⟨⟨L, F, U, m, ht, hU, hnn⟩, hlen, hdf⟩ := hrs
  obtain ⟨m', mo⟩ := m.virt (nid := σ.h.length) (nd_none (Nat.le_refl _)) (fun hu => by have := hU _ hu; omega)
  have e : (⟨σ.t.set i (.v false [.ref σ.h.length 0 0 s]), setH σ.h σ.h.length (some (true, []))⟩ : St).nd = upd σ.nd σ.h.length (some (true, [])) := ndOf_setH _ _ _
  rw [← e] at m' mo
  refine ⟨⟨_, _, _, m', fun j => ?_, fun j hj => ?_, fun j hj => ?_⟩, by simpa using hlen, hdf⟩
  · show RTV _ _ _ _ _ ((σ.t.set i _).getD j .undef)
    rw [List.getD_eq_getElem?_getD, List.getElem?_set]
    have hj := mo.rtv (ht j)
    split
    · rename_i e2
      subst e2
      split
      · rw [hi] at hj
        show Rep _ _ _ _ _ _ _
        generalize a.tmps.getD i undef = x at hj
        obtain rfl := rep_nilc hj
        exact .ref0 (.inr rfl) (.inl rfl) .nil
      · trivial
    · unfold St.tv at hj; rw [List.getD_eq_getElem?_getD] at hj; exact hj
  · show j < (setH σ.h σ.h.length _).length
    rw [setH_length]
    rcases hj with hj | hj
    · have := hU j hj; omega
    · omega
  · obtain ⟨h1, h2⟩ := hnn j hj
    obtain ⟨h3, h4⟩ := mo.2.1 j h1
    exact ⟨h3, h4.trans h2⟩

end
end

section
open Go Go.RowKit Go.ChangeShapes

def fieldsOK (P : Program) : Nat → List Field → Nat → Bool
  | off, [], n => off == n
  | off, f :: fs, n => f.offset == off && fieldsOK P (off + P.cellsOf f.type) fs n

/-- Types of plain data. -/
def plainN (P : Program) : Nat → TypeId → Bool
  | 0, _ => false
  | d + 1, t => match P.underlying t with
    | some .bool | some (.int _) | some .string => P.cellsOf t == 1
    | some (.slice e) => plainN P d e && decide (0 < P.cellsOf e) && P.cellsOf t == 1
    | some (.struct fs) => fieldsOK P 0 fs.toList (P.cellsOf t) && fs.toList.all fun f => plainN P d f.type
    | _ => false

/-- The cells of a list of elements or fields. -/
inductive Each {α : Type} (R : α → List Cell → Prop) : List α → List Cell → Prop
  | nil : Each R [] []
  | cons {a l as ls} : R a l → Each R as ls → Each R (a :: as) (l ++ ls)

/-- `n` parts, one behind the other. -/
inductive Reps (R : List Cell → Prop) : Nat → List Cell → Prop
  | nil : Reps R 0 []
  | cons {n l ls} : R l → Reps R n ls → Reps R (n + 1) (l ++ ls)

/-- The cells of plain data of a type, as they come into a law. -/
def fitN (P : Program) : Nat → TypeId → List Cell → Prop
  | 0, _, _ => False
  | d + 1, t, cs => match P.underlying t with
    | some .bool => ∃ b, cs = [.prim (.bool b)]
    | some (.int k) => ∃ n, cs = [.prim (.int k n)] ∧ (Lit.int k n).wf = true
    | some .string => ∃ s, cs = [.prim (.string s)] ∧ s.size ≤ reachBytes
    | some (.slice e) => ∃ n l, cs = [.sl false n (P.cellsOf e) l] ∧ n * P.bytesOf e ≤ reachBytes ∧ Reps (fitN P d e) n l
    | some (.struct fs) => Each (fun (f : Field) l => fitN P d f.type l) fs.toList cs
    | _ => False

theorem cells?_some {w : World} {base : Nat} {a : Addr} {n : Nat} {cs : List Value} (h : w.cells? base a n = some cs) : cs.length = n ∧ ∀ (j : Nat) v, cs[j]? = some v → w.cell? (a.add j) = some v := by
  unfold World.cells? at h
  split at h
  · have hl := mapM_some_length h
    simp only [List.length_range] at hl
    refine ⟨hl, fun j v hj => ?_⟩
    have hjn : j < n := by rw [← hl]; exact (List.getElem?_eq_some_iff.1 hj).1
    have := mapM_some_get h j j (by simp [hjn])
    rw [hj] at this; exact this
  · cases h

theorem cell_spot {w : World} {a : Addr} {v : Value} (h : w.cell? a = some v) : a.spot = none ∧ a.block < w.heap.size := by
  unfold World.cell? at h
  split at h
  · rename_i c t fr hb
    split at h
    · cases h
    · rename_i hs
      exact ⟨by simpa using hs, (Array.getElem?_eq_some_iff.1 hb).1⟩
  · cases h

section

variable {H : Type} {enc : TypeId × Value → H} {P : Program} {w : World}

theorem fit_of_trod : ∀ (d : Nat) (t : TypeId) (fuel : Nat) (cs : List Value) (x : DataW H × List MemPlace), plainN P d t = true → DataW.trod enc P w 0 (fun _ => true) true fuel t cs = some x →
    (x.1.weights P t).all (· ≤ reachBytes) = true → cs.length = P.cellsOf t ∧ ∃ l, Rep (fun b => b < w.heap.size) noU noL w cs l [] ∧ fitN P d t l ∧ closedL l = true
  | 0, _, _, _, _, hp, _, _ => by simp [plainN] at hp
  | d + 1, t, fuel, cs, x, hp, hx, hw => by
    unfold plainN at hp
    unfold fitN
    split at hp
    · rename_i ht
      obtain ⟨b, rfl, rfl⟩ := DataW.trod_bool ht hx
      exact ⟨by simpa using (beq_iff_eq.1 hp).symm, _, .prim rfl .nil, ⟨b, rfl⟩, rfl⟩
    · rename_i k ht
      obtain ⟨n, rfl, rfl, hn⟩ := DataW.trod_int ht hx
      exact ⟨by simpa using (beq_iff_eq.1 hp).symm, _, .prim rfl .nil, ⟨n, rfl, hn⟩, rfl⟩
    · rename_i ht
      obtain ⟨s, rfl, rfl, _⟩ := DataW.trod_string ht hx
      simp only [DataW.weights, List.all_cons, List.all_nil, Bool.and_true, decide_eq_true_eq] at hw
      exact ⟨by simpa using (beq_iff_eq.1 hp).symm, _, .prim rfl .nil, ⟨s, rfl, by simpa using hw⟩, rfl⟩
    · rename_i e ht
      simp only [Bool.and_eq_true, decide_eq_true_eq, beq_iff_eq] at hp
      obtain ⟨⟨hp1, hp2⟩, hp3⟩ := hp
      rcases DataW.trod_slice ht hx with ⟨rfl, rfl⟩ | ⟨a, len, cap, elems, rest, n, rfl, rfl, rfl, _, hlc, hcap, hel, hget, _, _⟩
      · exact ⟨by simp [hp3], _, .ro0 (fun _ => rfl) .nil, ⟨0, [], rfl, by simp, .nil⟩, rfl⟩
      · refine ⟨by simp [hp3], ?_⟩
        have hw' : (elems.map (·.1)).length * P.bytesOf e ≤ reachBytes ∧ ∀ y ∈ elems, (y.1.weights P e).all (· ≤ reachBytes) = true := by
          simp only [DataW.weights, ht, List.all_cons, List.all_append, Bool.and_eq_true, decide_eq_true_eq] at hw
          refine ⟨Nat.le_trans (Nat.mul_le_mul_right _ (by simp)) hw.1, ?_⟩
          have h2 := hw.2.1
          clear hget hel hw hx
          induction elems with
          | nil => intro y hy; cases hy
          | cons z elems ih =>
            simp only [List.map_cons, DataW.weightsAll, List.all_append, Bool.and_eq_true] at h2
            intro y hy
            rcases List.mem_cons.1 hy with rfl | hy
            · exact h2.1
            · exact ih h2.2 y hy
        -- element by element
        have one : ∀ i, i < len → ∃ us l, us.length = P.cellsOf e ∧ (∀ (j : Nat) v, us[j]? = some v → w.cell? ((a.add (i * P.cellsOf e)).add j) = some v) ∧ Rep (fun b => b < w.heap.size) noU noL w us l [] ∧ fitN P d e l ∧ closedL l = true := by
          intro i hi
          have hg := hget i hi
          rw [List.getElem?_eq_getElem (by omega)] at hg
          obtain ⟨us, h1, h2⟩ := Option.bind_eq_some_iff.1 hg
          obtain ⟨h3, h4⟩ := cells?_some h1
          obtain ⟨_, l, h5, h6, h7⟩ := fit_of_trod d e n us _ hp1 h2 (hw'.2 _ (List.getElem_mem _))
          exact ⟨us, l, h3, h4, h5, h6, h7⟩
        by_cases hz : len = 0
        · subst hz
          exact ⟨_, .ro0 (fun e => by cases e) .nil, ⟨0, [], rfl, by simp, .nil⟩, rfl⟩
        obtain ⟨us0, _, hu0, hc0, _⟩ := one 0 (by omega)
        have hu00 : ∃ v, us0[0]? = some v := ⟨_, List.getElem?_eq_getElem (by omega)⟩
        obtain ⟨v0, hv0⟩ := hu00
        have h00 := hc0 0 v0 hv0
        simp only [Nat.zero_mul] at h00
        have ha0 : (a.add 0).add 0 = a := by simp [Addr.add]
        rw [ha0] at h00
        obtain ⟨hs, hblk⟩ := cell_spot h00
        obtain ⟨b, o, sp⟩ := a
        simp only at hs
        subst hs
        -- all elements from `i` on
        have all : ∀ m i, i + m = len → ∃ us l, us.length = m * P.cellsOf e ∧ w.rangeAt b (o + i * P.cellsOf e) us ∧ Rep (fun b => b < w.heap.size) noU noL w us l [] ∧ Reps (fitN P d e) m l ∧ closedL l = true := by
          intro m
          induction m with
          | zero => intro i _; exact ⟨[], [], by simp, rangeAt_nil _ _ _, .nil, .nil, rfl⟩
          | succ m ih =>
            intro i hi
            obtain ⟨us1, l1, g1, g2, g3, g4, g5⟩ := one i (by omega)
            obtain ⟨us2, l2, k1, k2, k3, k4, k5⟩ := ih (i + 1) (by omega)
            refine ⟨us1 ++ us2, l1 ++ l2, by simp [g1, k1, Nat.succ_mul, Nat.add_comm], rangeAt_append (fun j v hj => ?_) ?_, by simpa using g3.append k3, .cons g4 k4, by rw [closedL_append, g5, k5]; rfl⟩
            · have := g2 j v hj
              rw [Addr.add_mid, Addr.add_mid] at this; exact this
            · rw [g1, Nat.add_assoc, ← Nat.succ_mul]; exact k2
        obtain ⟨us, l, g1, g2, g3, g4, g5⟩ := all len 0 (by omega)
        rw [Nat.zero_mul, Nat.add_zero] at g2
        have hl := g3.length
        have := @Rep.ro (fun b => b < w.heap.size) noU noL w b o len cap (P.cellsOf e) l us [] [] [] (fun _ => hblk) (by omega) hlc g2 g5 g3 .nil
        exact ⟨_, this, ⟨len, l, rfl, by simpa [hel] using hw'.1, g4⟩, by simp [closedL, Cell.closed, g5]⟩
    · rename_i fs ht
      simp only [Bool.and_eq_true] at hp
      obtain ⟨hp1, hp2⟩ := hp
      obtain ⟨xs, n, rfl, rfl, hl, hxs, hget⟩ := DataW.trod_struct ht hx
      refine ⟨hl, ?_⟩
      simp only [DataW.weights, ht] at hw
      have go : ∀ (fl : List Field) (ys : List (DataW H × List MemPlace)) (off : Nat), fieldsOK P off fl cs.length = true → fl.all (fun f => plainN P d f.type) = true → ys.length = fl.length → off ≤ cs.length →
          (∀ (i : Nat) (f : Field), fl[i]? = some f → DataW.trod enc P w 0 (fun _ => true) true n f.type ((cs.drop f.offset).take (P.cellsOf f.type)) = ys[i]?) →
          (DataW.weightsEach P (fl.map (·.type)) (ys.map (·.1))).all (· ≤ reachBytes) = true →
          ∃ l, Rep (fun b => b < w.heap.size) noU noL w (cs.drop off) l [] ∧ Each (fun (f : Field) l => fitN P d f.type l) fl l ∧ closedL l = true := by
        intro fl
        induction fl with
        | nil =>
          intro ys off h1 _ _ _ _ _
          simp only [fieldsOK, beq_iff_eq] at h1
          exact ⟨[], by rw [h1, List.drop_length]; exact .nil, .nil, rfl⟩
        | cons f fl ih =>
          intro ys off h1 h2 h3 h4 h5 h6
          match ys, h3 with
          | y :: ys, h3 =>
          simp only [fieldsOK, Bool.and_eq_true, beq_iff_eq] at h1
          obtain ⟨rfl, h1⟩ := h1
          simp only [List.all_cons, Bool.and_eq_true] at h2
          simp only [List.map_cons, DataW.weightsEach, List.all_append, Bool.and_eq_true] at h6
          have hf := h5 0 f rfl
          simp only [List.getElem?_cons_zero] at hf
          obtain ⟨k1, l1, k2, k3, k4⟩ := fit_of_trod d f.type n _ y h2.1 hf h6.1
          simp only [List.length_take, List.length_drop] at k1
          have hz : f.offset + P.cellsOf f.type ≤ cs.length := by omega
          obtain ⟨l2, m2, m3, m4⟩ := ih ys (f.offset + P.cellsOf f.type) h1 h2.2 (by simpa using h3) hz (fun i g hg => h5 (i + 1) g hg) h6.2
          refine ⟨l1 ++ l2, ?_, .cons k3 m3, by rw [closedL_append, k4, m4]; rfl⟩
          have := k2.append m2
          rw [← List.drop_drop, List.take_append_drop] at this
          simpa using this
      obtain ⟨l, g1, g2, g3⟩ := go fs.toList xs 0 (by rw [hl]; exact hp1) hp2 (by simpa using hxs) (Nat.zero_le _) (fun i f hf => hget i f (by simpa using hf)) hw
      exact ⟨l, by simpa using g1, g2, g3⟩
    · cases hp

/-- How an argument of a law lies: its cells, and whether it is a struct. -/
def rowB (P : Program) (t : TypeId) : Bool := match P.underlying t with | some (.struct _) => true | _ => false

theorem rv_of_rep {S U : Nat → Prop} {L : Nat → Nat × Nat} {r : Reach} {base d : Nat} {t : TypeId} {v : Value} {l : List Cell} (hp : plainN P d t = true) (hok : Value.okWide P w r base t v) (hr : Rep S U L w v.cells.toList l []) :
    RV S U L w v (rowB P t, l) := by
  cases d with
  | zero => simp [plainN] at hp
  | succ d =>
    unfold plainN at hp
    unfold rowB
    have one : ∀ {x : Value}, x.cells.toList = [x] → v = x → RV S U L w v (false, l) := fun {x} e1 e2 => by
      subst e2; rw [e1] at hr; exact hr
    unfold Value.okWide at hok
    cases ht : P.underlying t with
    | none => rw [ht] at hp; cases hp
    | some td =>
      rw [ht] at hp hok
      cases td with
      | struct fs =>
        obtain ⟨cs, rfl, _, _⟩ := hok
        exact ⟨cs, rfl, by simpa [Value.cells] using hr⟩
      | bool => simp only [Cell.okWide, Cell.ok, ht] at hok; cases v <;> simp at hok <;> exact one rfl rfl
      | int k => simp only [Cell.okWide, Cell.ok, ht] at hok; cases v <;> simp at hok <;> exact one rfl rfl
      | string => simp only [Cell.okWide, Cell.ok, ht] at hok; cases v <;> simp at hok <;> exact one rfl rfl
      | slice e => simp only [Cell.okWide, Cell.ok, ht] at hok; cases v <;> simp at hok <;> exact one rfl rfl
      | _ => cases hp

/-- The arguments of a law. -/
inductive FitAll (P : Program) (d : Nat) : List TypeId → List Arg → Prop
  | nil : FitAll P d [] []
  | cons {t l ts as} : fitN P d t l → FitAll P d ts as → FitAll P d (t :: ts) (.val (rowB P t) l :: as)

theorem fitAll_of {r : Reach} {base d : Nat} : ∀ (ts : List TypeId) (vs : List Value) (ds : List (DataW H)) (ps : List MemPlace), ts.all (plainN P d) = true → DataW.TrodAll enc P w 0 (fun _ => true) true ts vs ds ps →
    (∀ (j : Nat) t v, ts[j]? = some t → vs[j]? = some v → Value.okWide P w r base t v) → (DataW.weightsEach P ts ds).all (· ≤ reachBytes) = true →
    ∃ as, FitAll P d ts as ∧ as.length = vs.length ∧ ∀ (j : Nat) v a, vs[j]? = some v → as[j]? = some a → ∃ b l, a = .val b l ∧ Rep (fun b => b < w.heap.size) noU noL w v.cells.toList l [] ∧ RV (fun b => b < w.heap.size) noU noL w v (b, l)
  | [], [], ds, ps, _, _, _, _ => ⟨[], .nil, rfl, fun j v a h => by simp at h⟩
  | t :: ts, v :: vs, dd :: ds, ps, hp, ht, hok, hw => by
    obtain ⟨p, q, ⟨fuel, h1⟩, h2, rfl⟩ := ht
    simp only [List.all_cons, Bool.and_eq_true] at hp
    simp only [DataW.weightsEach, List.all_append, Bool.and_eq_true] at hw
    obtain ⟨_, l, k1, k2, _⟩ := fit_of_trod d t fuel _ _ hp.1 h1 hw.1
    obtain ⟨as, g1, g2, g3⟩ := fitAll_of ts vs ds q hp.2 h2 (fun j t v a b => hok (j + 1) t v a b) hw.2
    refine ⟨_, .cons k2 g1, by simp [g2], fun j u a hj ha => ?_⟩
    cases j with
    | zero =>
      obtain rfl := Option.some.inj hj
      obtain rfl := Option.some.inj ha
      exact ⟨_, _, rfl, k1, rv_of_rep hp.1 (hok 0 t _ rfl rfl) k1⟩
    | succ j => exact g3 j u a hj ha
  | [], _ :: _, _, _, _, h, _, _ => by simp [DataW.TrodAll] at h
  | _ :: _, [], _, _, _, h, _, _ => by simp [DataW.TrodAll] at h
  | _ :: _, _ :: _, [], _, _, h, _, _ => by simp [DataW.TrodAll] at h

/-- A law, called. -/
theorem cell_lt {w : World} {b o : Nat} {v : Value} (h : w.cell? ⟨b, o, none⟩ = some v) : b < w.heap.size :=
  rangeAt_lt (us := [v]) (o := o) (fun j x hj => by
    cases j with
    | zero => obtain rfl := Option.some.inj hj; exact h
    | succ j => simp at hj) (by simp)

theorem call_law {f : FuncId} {as : List Arg} {vs : Array Value} (hgb : ∀ b, gBlk = some b → ∃ m, w.cell? ⟨b, 0, none⟩ = some (.int .i64 m)) (hlen : as.length = vs.size) (hv : ∀ (j : Nat) v a, vs.toList[j]? = some v → as[j]? = some a → ∃ b l, a = .val b l ∧ Rep (fun b => b < w.heap.size) noU noL w v.cells.toList l [] ∧ RV (fun b => b < w.heap.size) noU noL w v (b, l))
    {vals : List (Bool × List Cell)} {outs : List (Option (List Cell))} (h : CallOK P f as vals outs) :
    Calls P f vs w fun e w' => ∃ xs, e = .returned (packV xs) ∧ (∃ G S, RVs S w' xs vals G) ∧ Below w.heap.size w w' := by
  have hnode : ∀ j, ndOf (as.map Arg.node) j = none := by
    intro j
    rw [node_get]
    cases ha : as[j]? with
    | none => rfl
    | some a =>
      have hj : j < vs.toList.length := by have := (List.getElem?_eq_some_iff.1 ha).1; simp; omega
      obtain ⟨b, l, rfl, _⟩ := hv j _ a (List.getElem?_eq_getElem hj) ha
      rfl
  have own : ∀ j, Own (ndOf (as.map Arg.node)) noL (fun _ => []) j = [] := fun j => by simp [Own, hnode]
  let k : Base := ⟨w, fun b => b < w.heap.size, []⟩
  have m : Mem k (ndOf (as.map Arg.node)) w noL (fun _ => []) (· < as.length) :=
    ⟨(fun b hb => ⟨hb, by simp [k]⟩), (fun b hb => by cases hb), (fun id nd hid => by rw [hnode] at hid; cases hid), (fun j => by rw [own]; exact List.nodup_nil), (fun i j _ b hb => by rw [own] at hb; cases hb), (fun j b hb => by rw [own] at hb; cases hb),
      (fun _ _ _ => rfl), rfl, rfl, rfl, Grows.refl _, (fun b hb => by obtain ⟨n, hn⟩ := hgb b hb; exact ⟨cell_lt hn, n, hn⟩)⟩
  have hS : ∀ b, b < w.heap.size → SS k (ndOf (as.map Arg.node)) noL (fun _ => []) w b := fun b hb => ⟨.inl hb, hb, fun j => by rw [own]; simp⟩
  refine (h k noL (fun _ => []) vs ⟨by omega, fun _ => hlen.symm⟩ m fun i => ?_).mono fun e w' he => ?_
  · have hg : (argTVs 0 as).getD i .undef = (((as[i]?).map fun a => a.tv i)).getD .undef := by
      rw [List.getD_eq_getElem?_getD, argTVs_get]; simp
    rw [hg]
    cases ha : as[i]? with
    | none => trivial
    | some a =>
      have hj : i < vs.toList.length := by have := (List.getElem?_eq_some_iff.1 ha).1; simp; omega
      obtain ⟨b, l, rfl, hr, hrv⟩ := hv i _ a (List.getElem?_eq_getElem hj) ha
      have hvi : vs.getD i undef = vs.toList[i] := by simp at hj; simp [Array.getD_eq_getD_getElem?, hj]
      rw [hvi]
      simp only [Option.map_some, Option.getD_some, Arg.tv]
      have free : ∀ {us : List Value}, Rep (fun b => b < w.heap.size) noU noL w us l [] → Rep (SS k (ndOf (as.map Arg.node)) noL (fun _ => []) w) (· < as.length) noL w us l [] := fun r =>
        r.carry (fun b hb => ⟨hS b hb, rfl⟩) (fun i hi => hi.elim) (by simp) (Grows.refl _)
      cases b with
      | false => exact free hrv
      | true => obtain ⟨ws, e, hrv⟩ := hrv; exact ⟨ws, e, free hrv⟩
  · obtain ⟨v, rfl, xs, G, Fo, rfl, fin⟩ := he
    exact ⟨xs, rfl, ⟨G, _, fin.res⟩, fin.os, fin.tape, fin.output, fin.grows.1, fun b hb => fin.frame b hb (by simp [k])⟩

theorem trodAll_back {W W' : World} (hl : laidOutB P = true) (hb : Below W.heap.size W W') : ∀ (ts : List TypeId) (vs : List Value) (ds : List (DataW H)) (ps : List MemPlace), (∀ t ∈ ts, P.readableRec t = true ∧ t < P.types.size) →
    DataW.TrodAll enc P W 0 (fun _ => true) true ts vs ds ps → (∀ x ∈ ps, x.block < W.heap.size) → DataW.TrodAll enc P W' 0 (fun b => decide (b < W.heap.size)) true ts vs ds ps
  | [], [], [], ps, _, h, _ => h
  | t :: ts, v :: vs, d :: ds, ps, ht, h, hlt => by
    obtain ⟨p, q, h1, h2, rfl⟩ := h
    exact ⟨p, q, Below.trod hl (ht t (by simp)).1 (ht t (by simp)).2 h1 hb (fun x hx => hlt x (by simp [hx])), trodAll_back hl hb ts vs ds q (fun u hu => ht u (by simp [hu])) h2 (fun x hx => hlt x (by simp [hx])), rfl⟩
  | [], [], _ :: _, _, _, h, _ => by simp [DataW.TrodAll] at h
  | [], _ :: _, _, _, _, h, _ => by simp [DataW.TrodAll] at h
  | _ :: _, [], _, _, _, h, _ => by simp [DataW.TrodAll] at h
  | _ :: _, _ :: _, [], _, _, h, _ => by simp [DataW.TrodAll] at h

end

/-- What a law's call does. -/
theorem law_calls {C : Checked} {f : FuncId} {fn : Func} {s : ChangeSpec} {fresh : Bool} {H : Type} {enc : TypeId × Value → H} {d : Nat} {rt : TypeId}
    (laid : laidOutB C.prog = true) (hvars : s.vars = []) (hread : ∀ t ∈ fn.params.toList, C.prog.readableRec t = true ∧ t < C.prog.types.size) (hplain : fn.params.toList.all (plainN C.prog d) = true)
    (hres : fn.resultTypes = #[rt]) (hbool : C.prog.underlying rt = some .bool)
    (hspec : ∀ ds : List (DataW H), ds.length = fn.params.size → s.fn H ds = { results := [.lit (.bool true)], args := ds })
    (hlaw : ∀ as, FitAll C.prog d fn.params.toList as → ∃ outs, CallOK C.prog f as [(false, [.prim (.bool true)])] outs)
    {W : World} {base : Nat} {args : Array Value} {ds gs : List (DataW H)} {before : List MemPlace}
    (hgb : ∀ b, gBlk = some b → ∃ m, W.cell? ⟨b, 0, none⟩ = some (.int .i64 m))
    (hval : ∀ (j : Nat) t v, fn.params[j]? = some t → args[j]? = some v → Value.okWide C.prog W .any base t v)
    (hW : DataW.Whole enc C.prog fn.params.toList s.vars false W args.toList ds gs before)
    (hsz : (DataW.weightsEach C.prog (fn.params.toList ++ s.plain.varTypes C.prog) (ds ++ gs)).all (· ≤ reachBytes) = true) :
    Calls C.prog f args W fun e W' => ∃ v, e = .returned v ∧ s.post enc C.prog fn false fresh false false W args v W' := by
  have hW' := hW
  obtain ⟨p, q, hA, hV, rfl, hfz, hnd⟩ := hW
  rw [hvars] at hV
  obtain ⟨rfl, rfl⟩ := trodVars_none hV
  have hsz' : (DataW.weightsEach C.prog fn.params.toList ds).all (· ≤ reachBytes) = true := by
    have : s.plain.varTypes C.prog = [] := by simp [ChangeSpec.plain, DataSpec.varTypes, hvars]
    simpa [this] using hsz
  obtain ⟨as, g1, g2, g3⟩ := fitAll_of (r := .any) (base := base) (d := d) fn.params.toList args.toList ds p hplain hA (fun j t v ht hv => hval j t v (by simpa using ht) (by simpa using hv)) hsz'
  obtain ⟨outs, hc⟩ := hlaw as g1
  refine (call_law (w := W) hgb (by simpa using g2) g3 hc).mono fun e W' ⟨xs, he, ⟨G, S, hr⟩, bel⟩ => ?_
  subst he
  have hx : xs = [.bool true] := by
    match xs, hr with
    | [x], hr =>
      obtain ⟨G1, G2, _, h1, _⟩ := hr
      have h1' : Rep S noU noL W' [x] [.prim (.bool true)] G1 := h1
      cases h1' with
      | prim _ _ => rfl
    | [], hr => exact hr.elim
    | _ :: _ :: _, hr => obtain ⟨_, _, _, _, h2⟩ := hr; exact h2.elim
  subst hx
  have hdl : ds.length = fn.params.size := by
    have : ∀ (ts : List TypeId) (vs : List Value) (ds : List (DataW H)) (ps : List MemPlace), DataW.TrodAll enc C.prog W 0 (fun _ => true) true ts vs ds ps → ds.length = ts.length := by
      intro ts
      induction ts with
      | nil => intro vs ds ps h; cases vs <;> cases ds <;> simp [DataW.TrodAll] at h ⊢
      | cons t ts ih => intro vs ds ps h; cases vs <;> cases ds <;> simp [DataW.TrodAll] at h ⊢; obtain ⟨_, _, _, h, _⟩ := h; exact ih _ _ _ h
    simpa using this _ _ _ _ hA
  have hsp : s.fn H (ds ++ []) = { results := [.lit (.bool true)], args := ds } := by rw [List.append_nil]; exact hspec ds hdl
  refine ⟨_, rfl, ds, [], p ++ [], [], p, [], hW', ?_, ?_, ?_, bel.frame _, fun h => by cases h⟩
  · rw [hsp, hres]
    exact trodAll_mk1 (shut_bool hbool _)
  · rw [hsp]
    exact trodAll_back laid bel _ _ _ _ hread hA (fun x hx => by simpa using hW'.lt x (by simp [hx]))
  · rw [hsp, hvars]
    rfl

/-- The row of a law that lists variables: they are not looked at. -/
theorem law_rowL {C : Checked} {os : Os} {f : FuncId} {fn : Func} {s : ChangeSpec} {fresh : Bool} {H : Type} {enc : TypeId × Value → H} {d : Nat} {rt : TypeId} {X : World → Array Value → Prop}
    (own : ownKnob C.prog.godebug = none) (started : os.Started) (noInit : C.prog.inits.idxOf? f = none) (hfn : C.prog.funcs[f]? = some fn)
    (witness : ∃ (w : World) (tape : Tape) (i : Input), w.os = os ∧ (w.forCall tape i).Shaped C.prog ∧ i.vars = [] ∧ Input.okWide C.prog (w.forCall tape i) .any w.heap.size f i ∧
      ((s.pre enc C.prog fn [] false (w.forCall tape i).memory i.args ∧ X (w.forCall tape i).memory i.args) ∧ sizedMet enc C.prog fn (OpenSpec.ofChange s) false (w.forCall tape i).memory i.args) ∧ ({} : Assume).holds C.prog (lone (Frame.enter C.prog f i.args .normal) [] (w.forCall tape i)))
    (laid : laidOutB C.prog = true) (hvars : s.vars = []) (hread : ∀ t ∈ fn.params.toList, C.prog.readableRec t = true ∧ t < C.prog.types.size) (hplain : fn.params.toList.all (plainN C.prog d) = true)
    (hres : fn.resultTypes = #[rt]) (hbool : C.prog.underlying rt = some .bool)
    (hspec : ∀ ds : List (DataW H), ds.length = fn.params.size → s.fn H ds = { results := [.lit (.bool true)], args := ds })
    (hgb : ∀ W : World, W.ShapedOpen C.prog → ∀ b, gBlk = some b → ∃ m, W.cell? ⟨b, 0, none⟩ = some (.int .i64 m))
    (hlaw : ∀ as, FitAll C.prog d fn.params.toList as → ∃ outs, CallOK C.prog f as [(false, [.prim (.bool true)])] outs) :
    ReturnsInHanded {} C os f .any (fun w args => (s.pre enc C.prog fn [] false w args ∧ X w args) ∧ sizedMet enc C.prog fn (OpenSpec.ofChange s) false w args) (s.post enc C.prog fn false fresh false false) := by
  refine returnsInHanded_of_calls own started noInit witness ?_
  intro w tape i _ hsh _ hok hpre hholds
  obtain ⟨_, _, _, fn', hfn', _, _, _, _, hval⟩ := hok
  have e : fn' = fn := Option.some.inj (hfn'.symm.trans hfn)
  subst e
  obtain ⟨⟨⟨ds, gs, before, hw, hc⟩, hx⟩, hz⟩ := hpre
  have hw' := DataW.Whole.of_heap (w' := w.forCall tape i) (by rfl) hw
  refine (law_calls (fresh := fresh) laid hvars hread hplain hres hbool hspec hlaw (hgb _ hsh) hval hw' (hz.weights hw)).mono fun e W' ⟨v, he, hp⟩ => ?_
  subst he
  exact ChangeSpec.post_blind hp
end

section
open Go Go.RowKit

/-- A value, told by its form. -/
def fv (v : TV) (K : TV → Prop) : Prop :=
  match v with
  | .v b l => K (.v b l)
  | .tup l => K (.tup l)
  | .undef => K .undef

/-- Cells, told one by one. -/
def fl : List Cell → (List Cell → Prop) → Prop
  | [], K => K []
  | c :: l, K => match c with
    | .prim v => fl l fun r => K (.prim v :: r)
    | .nil => fl l fun r => K (.nil :: r)
    | .sl o n s x => fl l fun r => K (.sl o n s x :: r)
    | .ref id off n s => fl l fun r => K (.ref id off n s :: r)
    | .ptr id off => fl l fun r => K (.ptr id off :: r)
    | .rop x => fl l fun r => K (.rop x :: r)
    | .op x => fl l fun r => K (.op x :: r)
    | .dead => fl l fun r => K (.dead :: r)

theorem fl_ok : ∀ {l : List Cell} {K : List Cell → Prop}, fl l K → K l
  | [], _, h => h
  | c :: l, K, h => by
    unfold fl at h
    cases c <;> exact fl_ok (l := l) h

theorem fv_ok {v : TV} {K : TV → Prop} (h : fv v K) : K v := by cases v <;> exact h

/-- `s` cells from `off` on. -/
def cut : List Cell → Nat → Nat → Option (List Cell)
  | _, _, 0 => some []
  | [], _, _ + 1 => none
  | c :: l, 0, s + 1 => (cut l 0 s).map (c :: ·)
  | _ :: l, off + 1, s + 1 => cut l off (s + 1)

theorem cut_some : ∀ {l : List Cell} {off s : Nat} {r : List Cell}, cut l off s = some r → s = 0 ∧ r = [] ∨ (off + s ≤ l.length ∧ (l.drop off).take s = r)
  | l, _, 0, r, h => by left; cases l <;> simp [cut] at h <;> simp [h]
  | [], _, _ + 1, _, h => by simp [cut] at h
  | c :: l, 0, s + 1, r, h => by
    right
    obtain ⟨r', h1, rfl⟩ := Option.map_eq_some_iff.1 h
    rcases cut_some h1 with ⟨rfl, rfl⟩ | ⟨g1, g2⟩
    · simp
    · exact ⟨by simp; omega, by simpa using g2⟩
  | _ :: l, off + 1, s + 1, r, h => by
    right
    rcases cut_some (l := l) (off := off) (s := s + 1) h with ⟨e, _⟩ | ⟨g1, g2⟩
    · cases e
    · exact ⟨by simp; omega, by simpa using g2⟩

/-- Cells put in place of others. -/
def put : List Cell → Nat → List Cell → Option (List Cell)
  | l, 0, [] => some l
  | [], _, _ => none
  | _ :: l, 0, x :: xs => (put l 0 xs).map (x :: ·)
  | c :: l, off + 1, xs => (put l off xs).map (c :: ·)

theorem put_some : ∀ {l : List Cell} {off : Nat} {x r : List Cell}, put l off x = some r → off + x.length ≤ l.length ∧ putAt l off x = r
  | l, 0, [], r, h => by
    have : some l = some r := by cases l <;> exact h
    obtain rfl := Option.some.inj this
    simp [putAt]
  | [], 0, _ :: _, _, h => by simp [put] at h
  | [], _ + 1, _, _, h => by simp [put] at h
  | c :: l, 0, x :: xs, r, h => by
    obtain ⟨r', h1, rfl⟩ := Option.map_eq_some_iff.1 h
    obtain ⟨g1, g2⟩ := put_some h1
    refine ⟨by simp at g1 ⊢; omega, ?_⟩
    rw [← g2]; simp [putAt]
  | c :: l, off + 1, xs, r, h => by
    obtain ⟨r', h1, rfl⟩ := Option.map_eq_some_iff.1 h
    obtain ⟨g1, g2⟩ := put_some h1
    refine ⟨by simp; omega, ?_⟩
    rw [← g2]
    simp [putAt, Nat.add_right_comm off 1 xs.length]

def noOwn (l : List Cell) : Bool := l.all fun c => !c.own?

abbrev KT := TV → Upds → Prop

def cmpW (k : Value → Prop) (p : Prop) : Prop := (p → k (.bool true)) ∧ (¬ p → k (.bool false))

def intW (op : BinOp) (k : IntKind) (a b : Int) (K : Value → Prop) : Prop :=
  match op with
  | .add => ∃ c, k.wrap (a + b) = c ∧ K (.int k c)
  | .sub => ∃ c, k.wrap (a - b) = c ∧ K (.int k c)
  | .mul => ∃ c, k.wrap (a * b) = c ∧ K (.int k c)
  | .quo => b ≠ 0 ∧ ∃ c, k.wrap (a.tdiv b) = c ∧ K (.int k c)
  | .rem => b ≠ 0 ∧ ∃ c, a.tmod b = c ∧ K (.int k c)
  | .eql => cmpW K (a = b)
  | .neq => cmpW K (a ≠ b)
  | .lss => cmpW K (a < b)
  | .leq => cmpW K (a ≤ b)
  | .gtr => cmpW K (a > b)
  | .geq => cmpW K (a ≥ b)
  | .and => ∃ c, k.wrap (BitVec.ofInt k.bits a &&& BitVec.ofInt k.bits b).toNat = c ∧ K (.int k c)
  | .or => ∃ c, k.wrap (BitVec.ofInt k.bits a ||| BitVec.ofInt k.bits b).toNat = c ∧ K (.int k c)
  | .xor => ∃ c, k.wrap (BitVec.ofInt k.bits a ^^^ BitVec.ofInt k.bits b).toNat = c ∧ K (.int k c)
  | _ => False

def strW (op : BinOp) (x y : ByteArray) (K : Value → Prop) : Prop :=
  match op with
  | .add => x.size + y.size ≤ 9223372036854775807 ∧ K (.string (x ++ y))
  | .eql => cmpW K (x.toList = y.toList)
  | .neq => cmpW K (x.toList ≠ y.toList)
  | .lss => cmpW K (Op.bytesLess x.toList y.toList = true)
  | .leq => cmpW K ((Op.bytesLess x.toList y.toList || x.toList == y.toList) = true)
  | .gtr => cmpW K ((!(Op.bytesLess x.toList y.toList || x.toList == y.toList)) = true)
  | .geq => cmpW K ((!Op.bytesLess x.toList y.toList) = true)
  | _ => False

def binW (P : Program) (op : BinOp) (t : TypeId) (x y : Value) (K : Value → Prop) : Prop :=
  match x, y with
  | .int k a, .int k' b => match op with
    | .shl => 0 ≤ b ∧ ∃ c, k.wrap (a * 2 ^ (min b.toNat k.bits)) = c ∧ K (.int k c)
    | .shr => 0 ≤ b ∧ ∃ c, a.fdiv (2 ^ (min b.toNat k.bits)) = c ∧ K (.int k c)
    | op => match decide (k = k') with
      | true => intW op k a b K
      | false => False
  | .string a, .string b => strW op a b K
  | .bool a, .bool b => match P.underlying t with
    | some .bool => match op with
      | .eql => K (.bool (a == b))
      | .neq => K (.bool !(a == b))
      | _ => False
    | _ => False
  | _, _ => False

theorem cmpW_ok {K : Value → Prop} {p : Prop} {b : Bool} (hb : b = true ↔ p) (h : cmpW K p) : K (.bool b) := by
  cases b with
  | true => exact h.1 (hb.1 rfl)
  | false => exact h.2 fun hp => by have := hb.2 hp; cases this

theorem intW_ok {op : BinOp} {k : IntKind} {a b : Int} {K : Value → Prop} (h : intW op k a b K) : ∃ r, intT op k a b = some r ∧ K r := by
  unfold intW at h
  unfold intT
  cases op <;> simp only at h ⊢ <;> try (exact h.elim)
  case add => obtain ⟨c, rfl, h⟩ := h; exact ⟨_, rfl, h⟩
  case sub => obtain ⟨c, rfl, h⟩ := h; exact ⟨_, rfl, h⟩
  case mul => obtain ⟨c, rfl, h⟩ := h; exact ⟨_, rfl, h⟩
  case quo => obtain ⟨hb, c, rfl, h⟩ := h; rw [if_neg hb]; exact ⟨_, rfl, h⟩
  case rem => obtain ⟨hb, c, rfl, h⟩ := h; rw [if_neg hb]; exact ⟨_, rfl, h⟩
  case eql => exact ⟨_, rfl, cmpW_ok (by simp) h⟩
  case neq => exact ⟨_, rfl, cmpW_ok (by simp) h⟩
  case lss => exact ⟨_, rfl, cmpW_ok (by simp) h⟩
  case leq => exact ⟨_, rfl, cmpW_ok (by simp) h⟩
  case gtr => exact ⟨_, rfl, cmpW_ok (by simp) h⟩
  case geq => exact ⟨_, rfl, cmpW_ok (by simp) h⟩
  case and => obtain ⟨c, rfl, h⟩ := h; exact ⟨_, rfl, h⟩
  case or => obtain ⟨c, rfl, h⟩ := h; exact ⟨_, rfl, h⟩
  case xor => obtain ⟨c, rfl, h⟩ := h; exact ⟨_, rfl, h⟩

theorem strW_ok {op : BinOp} {x y : ByteArray} {K : Value → Prop} (h : strW op x y K) : ∃ r, strT op x y = some r ∧ K r := by
  unfold strW at h
  unfold strT
  cases op <;> simp only at h ⊢ <;> try (exact h.elim)
  case add => rw [if_pos h.1]; exact ⟨_, rfl, h.2⟩
  case eql => exact ⟨_, rfl, cmpW_ok (by simp) h⟩
  case neq => exact ⟨_, rfl, cmpW_ok (by simp) h⟩
  case lss => exact ⟨_, rfl, cmpW_ok Iff.rfl h⟩
  case leq => exact ⟨_, rfl, cmpW_ok Iff.rfl h⟩
  case gtr => exact ⟨_, rfl, cmpW_ok Iff.rfl h⟩
  case geq => exact ⟨_, rfl, cmpW_ok Iff.rfl h⟩

theorem binW_ok {P : Program} {op : BinOp} {t : TypeId} {x y : Value} {K : Value → Prop} (h : binW P op t x y K) : ∃ r, binT P op t x y = some r ∧ K r := by
  unfold binW at h
  split at h
  · rename_i k a k' b
    split at h
    · obtain ⟨hb, c, rfl, h⟩ := h
      simp only [binT]; rw [if_neg (by omega)]; exact ⟨_, rfl, h⟩
    · obtain ⟨hb, c, rfl, h⟩ := h
      simp only [binT]; rw [if_neg (by omega)]; exact ⟨_, rfl, h⟩
    · rename_i op h1 h2
      split at h
      · rename_i e
        have hk : k = k' := of_decide_eq_true e
        obtain ⟨r, h3, h4⟩ := intW_ok h
        refine ⟨r, ?_, h4⟩
        rw [← h3]
        cases op <;> first | exact absurd rfl h1 | exact absurd rfl h2 | (simp [binT, hk])
      · exact h.elim
  · obtain ⟨r, h3, h4⟩ := strW_ok h
    refine ⟨r, ?_, h4⟩
    rw [← h3]
    cases op <;> rfl
  · split at h
    · rename_i hu
      split at h
      · exact ⟨_, by simp [binT, hu], h⟩
      · exact ⟨_, by simp [binT, hu], h⟩
      · exact h.elim
    · exact h.elim
  · exact h.elim

def fillW (place : Nat → Option (Nat × Nat)) : List Cell → List (Nat × TV) → (List Cell → Prop) → Prop
  | cs, [], K => fl cs K
  | cs, (i, .v _ l) :: r, K => match place i with
    | some (off, size) => match decide (l.length = size), put cs off l with
      | true, some cs' => fillW place cs' r K
      | _, _ => False
    | none => False
  | _, _, _ => False

theorem fillW_ok {place : Nat → Option (Nat × Nat)} : ∀ {cs : List Cell} {ps : List (Nat × TV)} {K : List Cell → Prop}, fillW place cs ps K → ∃ r, fillT place cs ps = some r ∧ K r
  | cs, [], K, h => ⟨cs, rfl, fl_ok h⟩
  | cs, (i, .v _ l) :: r, K, h => by
    unfold fillW at h
    split at h
    · rename_i off size hp
      split at h
      · rename_i cs' h1 h2
        obtain ⟨r', g1, g2⟩ := fillW_ok h
        obtain ⟨g3, g4⟩ := put_some h2
        have h1 : l.length = size := of_decide_eq_true h1
        refine ⟨r', ?_, g2⟩
        simp only [fillT, hp]
        rw [if_pos ⟨h1, by omega⟩, g4]; exact g1
      · exact h.elim
    · exact h.elim
  | cs, (i, .tup _) :: r, K, h => by unfold fillW at h; exact h.elim
  | cs, (i, .undef) :: r, K, h => by unfold fillW at h; exact h.elim

/-- A small number, told as it is written. -/
def litK (n : Nat) (K : Nat → Prop) : Prop :=
  match n with
  | 0 => K 0
  | 1 => K 1
  | 2 => K 2
  | 3 => K 3
  | 4 => K 4
  | 5 => K 5
  | 6 => K 6
  | 7 => K 7
  | 8 => K 8
  | 9 => K 9
  | n => K n

theorem litK_ok {n : Nat} {K : Nat → Prop} (h : litK n K) : K n := by
  unfold litK at h
  split at h <;> exact h

def bigB : Nat := 140737488355328

def appendW (P : Program) (nd : Nat → Option Node) (nid : Nat) (ts tx : TypeId) (s x : TV) (K : KT) : Prop :=
  match elemT P ts with
  | none => False
  | some e => match P.info? e, zeroT P e, srcTy P tx, decide ((P.info? e).map (·.size) = some 0) with
    | some i, some _, true, false => litK i.size fun si => ∃ m N, srcT nd si x = some (m, N) ∧
        match s with
        | .v false [.nil] => (m ≤ bigB ∧ m * i.bytes ≤ bigB) ∧ K (.v false [.ref nid 0 m si]) [(nid, some (true, N))]
        | .v false [.ref id off n s'] => match decide (s' = si), nd id with
          | true, some (true, cs) => (off + n * s' ≤ cs.length ∧ n + m ≤ bigB ∧ (n + m) * i.bytes ≤ bigB) ∧ ∃ N', (cs.drop off).take (n * s') ++ N = N' ∧ ∃ q, n + m = q ∧
              K (.v false [.ref nid 0 q s']) [(id, none), (nid, some (true, N'))]
          | _, _ => False
        | _ => False
    | _, _, _, _ => False

theorem appendW_ok {P : Program} {nd : Nat → Option Node} {nid : Nat} {ts tx : TypeId} {s x : TV} {K : KT} (h : appendW P nd nid ts tx s x K) : ∃ r l, appendT P nd nid ts tx s x = some (r, l) ∧ K r l := by
  unfold appendW at h
  split at h
  · exact h.elim
  · rename_i e he
    split at h
    · rename_i i z hi hz hs hd
      have hne : i.size ≠ 0 := fun q => by
        rw [hi] at hd; simp [q] at hd
      obtain ⟨m, N, h1, h⟩ := litK_ok h
      split at h
      · obtain ⟨⟨h2, h3⟩, h4⟩ := h
        refine ⟨_, _, ?_, h4⟩
        simp only [appendT, he, hi, hz, h1]
        rw [if_pos ⟨hs, hne⟩, if_pos ⟨h2, h3⟩]
      · rename_i id off n s' _
        split at h
        · rename_i cs h5 h6
          obtain ⟨⟨h2, h3, h4⟩, N', rfl, q, rfl, h7⟩ := h
          have h5 : s' = i.size := of_decide_eq_true h5
          refine ⟨_, _, ?_, h7⟩
          simp only [appendT, he, hi, hz, h1, h6]
          rw [if_pos ⟨hs, hne⟩, if_pos h5, if_pos ⟨h2, h3, h4⟩]
        · exact h.elim
      · exact h.elim
    · exact h.elim

def lenW (P : Program) (t : TypeId) (x : TV) (K : Nat → Prop) : Prop :=
  match x with
  | .v false [.prim (.string s)] => match P.underlying t with
    | some .string => K s.size
    | _ => False
  | .v false [.nil] => match elemT P t with
    | some _ => K 0
    | none => False
  | .v false [.sl _ n _ _] => match elemT P t with
    | some _ => K n
    | none => False
  | .v false [.ref _ _ n _] => match elemT P t with
    | some _ => K n
    | none => False
  | _ => False

theorem lenW_ok {P : Program} {t : TypeId} {x : TV} {K : Nat → Prop} (h : lenW P t x K) : ∃ n, lenT P t x = some n ∧ K n := by
  unfold lenW at h
  split at h
  · split at h
    · rename_i hu; exact ⟨_, by simp [lenT, hu], h⟩
    · exact h.elim
  · split at h
    · rename_i hu; exact ⟨_, by simp [lenT, hu], h⟩
    · exact h.elim
  · split at h
    · rename_i hu; exact ⟨_, by simp [lenT, hu], h⟩
    · exact h.elim
  · split at h
    · rename_i hu; exact ⟨_, by simp [lenT, hu], h⟩
    · exact h.elim
  · exact h.elim

/-- What is to be shown, so that operation `op` does something, of which `K` holds. -/
def effW (P : Program) (nd : Nat → Option Node) (nid : Nat) (ev : Operand → TV) (op : Op) (K : KT) : Prop :=
  match op with
  | .move x | .assign x => fv (ev x) fun v => K v []
  | .pick c a b => match ev c with
    | .v false [.prim (.bool t)] => match t with
      | true => fv (ev a) fun v => K v []
      | false => fv (ev b) fun v => K v []
    | _ => False
  | .alloc t => match zeroT P t with
    | some z => fl z fun z => K (.v false [.ptr nid 0]) [(nid, some (true, z))]
    | none => False
  | .box _ x => match ev x with
    | .v _ l => K (.v false [.ptr nid 0]) [(nid, some (true, l))]
    | _ => False
  | .build t parts => match P.underlying t, zeroT P t with
    | some (.struct fs), some z => match fs.toList.all fun f => (szT P f.type).isSome with
      | true => fillW (placeT P fs) z (parts.toList.map fun p => (p.1, ev p.2)) fun cs => K (.v true cs) []
      | false => False
    | _, _ => False
  | .buildSlice t n parts => match elemT P t with
    | some e => match zeroT P e with
      | some z => match decide (n * z.length ≤ 16777216 ∧ z.length ≠ 0) with
        | true => fillW (fun i => some (i * z.length, z.length)) (zerosT z n) (parts.toList.map fun p => (p.1, ev p.2)) fun cs => litK z.length fun s => K (.v false [.ref nid 0 n s]) [(nid, some (true, cs))]
        | false => False
      | none => False
    | none => False
  | .load t a => match szT P t, rowT P t with
    | some s, some r => match (r || decide (s = 1)) && decide (s ≠ 0) with
      | true => match ev a with
        | .v false [.ptr id off] => match nd id with
          | some (_, cs) => litK s fun s => ∃ l, cut cs off s = some l ∧ match noOwn l with
            | true => fl l fun l => match r with
              | true => K (.v true l) []
              | false => K (.v false l) []
            | false => False
          | none => False
        | .v false [.rop l] => litK s fun s => ∃ l', cut l 0 s = some l' ∧ fl l' fun l => match r with
          | true => K (.v true l) []
          | false => K (.v false l) []
        | _ => False
      | false => False
    | _, _ => False
  | .store t a x => match ev a, ev x with
    | .v false [.ptr id off], .v _ l => match nd id, decide (szT P t = some l.length) with
      | some (true, cs), true => ∃ cs', put cs off l = some cs' ∧ K .undef [(id, some (true, cs'))]
      | _, _ => False
    | _, _ => False
  | .nilCheck x => match ev x with
    | .v false [.ptr id off] => K (.v false [.ptr id off]) []
    | .v false [.rop l] => K (.v false [.rop l]) []
    | _ => False
  | .binOp op t x y _ => match ev x, ev y with
    | .v false [.prim a], .v false [.prim b] => binW P op t a b fun r => K (.v false [.prim r]) []
    | .v true l, .v true l' => ∃ r, eqStruct P t l l' = some r ∧ match op with
      | .eql => K (.v false [.prim (.bool r)]) []
      | .neq => K (.v false [.prim (.bool !r)]) []
      | _ => False
    | _, _ => False
  | .unOp op _ x => match ev x with
    | .v false [.prim a] => match op, a with
      | .not, .bool t => match t with
        | true => K (.v false [.prim (.bool false)]) []
        | false => K (.v false [.prim (.bool true)]) []
      | .neg, .int k n => ∃ c, k.wrap (0 - n) = c ∧ K (.v false [.prim (.int k c)]) []
      | .xor, .int k n => ∃ c, k.wrap (BitVec.ofInt k.bits (if k.signed then -1 else k.max) ^^^ BitVec.ofInt k.bits n).toNat = c ∧ K (.v false [.prim (.int k c)]) []
      | _, _ => False
    | _ => False
  | .convert s d x => match P.underlying s, P.underlying d, ev x with
    | some _, some (.int k), .v false [.prim (.int _ n)] => ∃ c, k.wrap n = c ∧ K (.v false [.prim (.int k c)]) []
    | some .string, some .string, .v false [.prim (.string b)] => K (.v false [.prim (.string b)]) []
    | some .string, some (.slice e), .v false [.prim (.string b)] => match P.underlying e with
      | some (.int .u8) => ∃ n N, b.size = n ∧ byteC b.data.toList = N ∧ K (.v false [.sl false n 1 N]) []
      | _ => False
    | some (.slice e), some .string, .v false [c] => match P.underlying e, c with
      | some (.int .u8), .prim _ => False
      | some (.int .u8), c => ∃ n N bs, srcT nd 1 (.v false [c]) = some (n, N) ∧ strOf N = some bs ∧ K (.v false [.prim (.string ⟨bs.toArray⟩)]) []
      | _, _ => False
    | _, _, _ => False
  | .makeSlice t l c => match ev l, ev c, elemT P t with
    | .v false [.prim (.int _ n)], .v false [.prim (.int _ n')], some e => match P.info? e, zeroT P e with
      | some i, some z => fl z fun z => match decide (z.length ≠ 0) with
        | true => (n = n' ∧ 0 ≤ n ∧ n ≤ 140737488355328 ∧ n.toNat * i.bytes ≤ bigB) ∧ ∃ q s N, n.toNat = q ∧ z.length = s ∧ zerosT z q = N ∧ K (.v false [.ref nid 0 q s]) [(nid, some (true, N))]
        | false => False
      | _, _ => False
    | _, _, _ => False
  | .slice t x lo hi none => match ev x with
    | .v false [.prim (.string b)] => match P.underlying t with
      | some .string => ∃ l h, boundT 0 (lo.map ev) = some l ∧ boundT b.size (hi.map ev) = some h ∧ (l ≤ h ∧ h ≤ b.size) ∧ K (.v false [.prim (.string (b.extract l h))]) []
      | _ => False
    | .v false [c] => match c with
      | .prim _ => False
      | c => match elemT P t with
        | some e => match szT P e, nOf c with
          | some s, some n => ∃ l h c', boundT 0 (lo.map ev) = some l ∧ boundT n (hi.map ev) = some h ∧ sliceT c s l h = some c' ∧ K (.v false [c']) []
          | _, _ => False
        | none => False
    | _ => False
  | .fieldAddr s x f => match fieldT P s f with
    | some fd => match szT P fd.type with
      | some (_ + 1) => match ev x with
        | .v false [.ptr id off] => litK fd.offset fun fo => K (.v false [.ptr id (off + fo)]) []
        | .v false [.rop l] => litK fd.offset fun fo => K (.v false [.rop (l.drop fo)]) []
        | _ => False
      | _ => False
    | none => False
  | .field s x f => match fieldT P s f with
    | some fd => match szT P fd.type, rowT P fd.type, ev x with
      | some n, some r, .v true l => match (r || decide (n = 1)) && decide (n ≠ 0) with
        | true => litK fd.offset fun fo => litK n fun n => ∃ l', cut l fo n = some l' ∧ fl l' fun l' => match r with
          | true => K (.v true l') []
          | false => K (.v false l') []
        | false => False
      | _, _, _ => False
    | none => False
  | .indexAddr t x i => match elemT P t with
    | some e => match szT P e, ev i with
      | some s, .v false [.prim (.int _ j)] => match ev x with
        | .v false [.ref id off n s'] => match decide (s' = s) with
          | true => litK s fun s => (0 ≤ j ∧ j < n) ∧ ∃ o, off + j.toNat * s = o ∧ K (.v false [.ptr id o]) []
          | false => False
        | .v false [.sl false n s' l] => match decide (s' = s) with
          | true => litK s fun s => (0 ≤ j ∧ j < n) ∧ ∃ l', (l.drop (j.toNat * s)).take s = l' ∧ K (.v false [.rop l']) []
          | false => False
        | _ => False
      | _, _ => False
    | none => False
  | .index t x i => match P.underlying t, ev x, ev i with
    | some .string, .v false [.prim (.string b)], .v false [.prim (.int _ j)] => 0 ≤ j ∧ ∃ c, b.data.toList[j.toNat]? = some c ∧ K (.v false [.prim (.int .u8 c.toNat)]) []
    | _, _, _ => False
  | .extract x i => match ev x with
    | .tup l => match l[i]? with
      | some (b, cs) => K (.v b cs) []
      | none => False
    | _ => False
  | .call c => match c.callee with
    | .builtin b => match b, c.argTypes.toList, c.args.toList.map ev with
      | .append, [ts, tx], [s, x] => appendW P nd nid ts tx s x K
      | .len, [t], [x] => lenW P t x fun n => K (.v false [.prim (.int .i64 (n : Int))]) []
      | .max, _, [.v false [.prim (.int k a)], .v false [.prim (.int _ b)]] => ∃ c, (if b > a then b else a) = c ∧ K (.v false [.prim (.int k c)]) []
      | .min, _, [.v false [.prim (.int k a)], .v false [.prim (.int _ b)]] => ∃ c, (if b < a then b else a) = c ∧ K (.v false [.prim (.int k c)]) []
      | _, _, _ => False
    | _ => False
  | _ => False
end

section
open Go Go.RowKit

theorem cut_ne {l : List Cell} {off s : Nat} {r : List Cell} (h : cut l off s = some r) (hs : s ≠ 0) : off + s ≤ l.length ∧ (l.drop off).take s = r := by
  rcases cut_some h with ⟨e, _⟩ | h
  · exact absurd e hs
  · exact h

theorem rowK_ok {r : Bool} {l : List Cell} {K : KT} (h : match r with | true => K (.v true l) [] | false => K (.v false l) []) : K (.v r l) [] := by
  cases r <;> exact h

theorem effW_ok {P : Program} {nd : Nat → Option Node} {nid : Nat} {ev : Operand → TV} {op : Op} {K : KT} (h : effW P nd nid ev op K) : ∃ r l, eff P nd nid ev op = some (r, l) ∧ K r l := by
  cases op <;> simp only [effW] at h <;> try (exact h.elim)
  case move x => exact ⟨_, _, rfl, fv_ok h⟩
  case assign x => exact ⟨_, _, rfl, fv_ok h⟩
  case pick c a b =>
    split at h
    · rename_i t e
      split at h
      · exact ⟨_, _, by simp [eff, e], fv_ok h⟩
      · exact ⟨_, _, by simp [eff, e], fv_ok h⟩
    · exact h.elim
  case alloc t =>
    split at h
    · rename_i z e
      exact ⟨_, _, by simp [eff, e], fl_ok h⟩
    · exact h.elim
  case box t x =>
    split at h
    · rename_i b l e
      exact ⟨_, _, by simp [eff, e], h⟩
    · exact h.elim
  case build t parts =>
    split at h
    · rename_i fs z hu hz
      split at h
      · rename_i ha
        obtain ⟨r, h1, h2⟩ := fillW_ok h
        exact ⟨_, _, by simp only [eff, hu, hz]; rw [if_pos ha, h1]; rfl, h2⟩
      · exact h.elim
    · exact h.elim
  case buildSlice t n parts =>
    split at h
    · rename_i e he
      split at h
      · rename_i z hz
        split at h
        · rename_i hd
          have hd := of_decide_eq_true hd
          obtain ⟨r, h1, h2⟩ := fillW_ok h
          exact ⟨_, _, by simp only [eff, he, hz]; rw [if_pos hd, h1]; rfl, litK_ok h2⟩
        · exact h.elim
      · exact h.elim
    · exact h.elim
  case load t a =>
    split at h
    · rename_i s r hs hr
      split at h
      · rename_i hd
        simp only [Bool.and_eq_true, Bool.or_eq_true, decide_eq_true_eq] at hd
        split at h
        · rename_i id off e
          split at h
          · rename_i o cs hid
            obtain ⟨l, h1, h⟩ := litK_ok h
            split at h
            · rename_i hn
              obtain ⟨g1, rfl⟩ := cut_ne h1 hd.2
              refine ⟨_, _, ?_, rowK_ok (fl_ok h)⟩
              simp only [eff, hs, hr, e, hid]
              rw [if_pos hd.1, if_pos ⟨g1, hn⟩]
            · exact h.elim
          · exact h.elim
        · rename_i l e
          obtain ⟨l', h1, h⟩ := litK_ok h
          obtain ⟨g1, rfl⟩ := cut_ne h1 hd.2
          refine ⟨_, _, ?_, rowK_ok (fl_ok h)⟩
          simp only [eff, hs, hr, e]
          rw [if_pos hd.1, if_pos (by omega)]
          simp
        · exact h.elim
      · exact h.elim
    · exact h.elim
  case store t a x =>
    split at h
    · rename_i id off b l e1 e2
      split at h
      · rename_i cs hid hd
        obtain ⟨cs', h1, h2⟩ := h
        obtain ⟨g1, rfl⟩ := put_some h1
        have hd := of_decide_eq_true hd
        refine ⟨_, _, ?_, h2⟩
        simp only [eff, e1, e2, hid]
        rw [if_pos ⟨hd, g1⟩]
      · exact h.elim
    · exact h.elim
  case nilCheck x =>
    split at h
    · rename_i id off e; exact ⟨_, _, by simp [eff, e], h⟩
    · rename_i l e; exact ⟨_, _, by simp [eff, e], h⟩
    · exact h.elim
  case binOp op t x y q =>
    split at h
    · rename_i a b e1 e2
      obtain ⟨r, h1, h2⟩ := binW_ok h
      exact ⟨_, _, by simp [eff, e1, e2, h1], h2⟩
    · rename_i l l' e1 e2
      obtain ⟨r, h1, h⟩ := h
      split at h
      · exact ⟨_, _, by simp [eff, e1, e2, h1], h⟩
      · exact ⟨_, _, by simp [eff, e1, e2, h1], h⟩
      · exact h.elim
    · exact h.elim
  case unOp op t x =>
    split at h
    · rename_i a e
      split at h
      · split at h
        · exact ⟨_, _, by simp [eff, e, unT], h⟩
        · exact ⟨_, _, by simp [eff, e, unT], h⟩
      · obtain ⟨c, rfl, h⟩ := h; exact ⟨_, _, by simp only [eff, e]; rfl, h⟩
      · obtain ⟨c, rfl, h⟩ := h; exact ⟨_, _, by simp only [eff, e]; rfl, h⟩
      · exact h.elim
    · exact h.elim
  case convert s d x =>
    split at h
    · rename_i _ k _ n hs hd e
      obtain ⟨c, rfl, h⟩ := h
      exact ⟨_, _, by simp [eff, hs, hd, e], h⟩
    · rename_i b hs hd e
      exact ⟨_, _, by simp [eff, hs, hd, e], h⟩
    · rename_i e' b hs hd e
      split at h
      · rename_i hu
        obtain ⟨n, N, rfl, rfl, h⟩ := h
        exact ⟨_, _, by simp [eff, hs, hd, e, hu], h⟩
      · exact h.elim
    · rename_i e' c hs hd e
      split at h
      · exact h.elim
      · rename_i c0 _ c1 hu hp
        obtain ⟨n, N, bs, h1, h2, h⟩ := h
        refine ⟨_, _, ?_, h⟩
        have h1' : srcT nd 1 (ev x) = some (n, N) := by rw [e]; exact h1
        cases c0 with
        | prim v => exact (hp v rfl).elim
        | _ => simp [eff, hs, hd, e, hu, h1, h2]
      · exact h.elim
    · exact h.elim
  case makeSlice t l c =>
    split at h
    · rename_i n n' e e1 e2 e3
      split at h
      · rename_i i z hi hz
        have h := fl_ok h
        split at h
        · rename_i hd
          have hd := of_decide_eq_true hd
          obtain ⟨⟨h1, h2, h3, h4⟩, q, s, N, rfl, rfl, rfl, h⟩ := h
          refine ⟨_, _, ?_, h⟩
          simp only [eff, e1, e2, e3, hi, hz]
          rw [if_pos ⟨h1, h2, h3, h4, hd⟩]
        · exact h.elim
      · exact h.elim
    · exact h.elim
  case slice t x lo hi mx =>
    cases mx with
    | some _ => exact h.elim
    | none =>
    simp only at h
    split at h
    · rename_i b e
      split at h
      · rename_i hu
        obtain ⟨l, hh, h1, h2, h3, h⟩ := h
        refine ⟨_, _, ?_, h⟩
        simp only [eff, e, hu, h1, h2]
        rw [if_pos h3]
      · exact h.elim
    · rename_i c hnp e
      split at h
      · exact h.elim
      · rename_i c1 hnp2
        split at h
        · rename_i e' he'
          split at h
          · rename_i s n hs hn
            obtain ⟨l, hh, c', h1, h2, h3, h⟩ := h
            refine ⟨_, _, ?_, h⟩
            cases c with
            | prim v => exact (hnp2 v rfl).elim
            | _ => simp [eff, e, he', hs, hn, h1, h2, h3]
          · exact h.elim
        · exact h.elim
    · exact h.elim
  case fieldAddr s x f =>
    split at h
    · rename_i fd hf
      split at h
      · rename_i q hs
        split at h
        · rename_i id off e; exact ⟨_, _, by simp [eff, hf, hs, e], litK_ok h⟩
        · rename_i l e; exact ⟨_, _, by simp [eff, hf, hs, e], litK_ok h⟩
        · exact h.elim
      · exact h.elim
    · exact h.elim
  case field s x f =>
    split at h
    · rename_i fd hf
      split at h
      · rename_i n r l hs hr e
        split at h
        · rename_i hd
          simp only [Bool.and_eq_true, Bool.or_eq_true, decide_eq_true_eq] at hd
          obtain ⟨l', h1, h⟩ := litK_ok (litK_ok h)
          obtain ⟨g1, rfl⟩ := cut_ne h1 hd.2
          refine ⟨_, _, ?_, rowK_ok (fl_ok h)⟩
          simp only [eff, hf, hs, hr, e]
          rw [if_pos ⟨hd.1, g1⟩]
        · exact h.elim
      · exact h.elim
    · exact h.elim
  case indexAddr t x i =>
    split at h
    · rename_i e he
      split at h
      · rename_i s _ j hs e1
        split at h
        · rename_i id off n s' e2
          split at h
          · rename_i hd
            have hd := of_decide_eq_true hd
            obtain ⟨⟨h1, h2⟩, o, rfl, h⟩ := litK_ok h
            refine ⟨_, _, ?_, h⟩
            simp only [eff, he, hs, e1, e2]
            rw [if_pos ⟨h1, h2, hd⟩]
          · exact h.elim
        · rename_i n s' l e2
          split at h
          · rename_i hd
            have hd := of_decide_eq_true hd
            obtain ⟨⟨h1, h2⟩, l', rfl, h⟩ := litK_ok h
            refine ⟨_, _, ?_, h⟩
            simp only [eff, he, hs, e1, e2]
            rw [if_pos ⟨h1, h2, hd⟩]
          · exact h.elim
        · exact h.elim
      · exact h.elim
    · exact h.elim
  case index t x i =>
    split at h
    · rename_i b _ j hu e1 e2
      obtain ⟨h0, c, h1, h⟩ := h
      refine ⟨_, _, ?_, h⟩
      simp only [eff, hu, e1, e2, h1]
      rw [if_pos h0]
    · exact h.elim
  case extract x i =>
    split at h
    · rename_i l e
      split at h
      · rename_i b cs e2
        exact ⟨_, _, by simp [eff, e, e2], h⟩
      · exact h.elim
    · exact h.elim
  case call c =>
    split at h
    · rename_i b hb
      split at h
      · rename_i ts tx s x e1 e2
        obtain ⟨r, l, h1, h2⟩ := appendW_ok h
        exact ⟨r, l, by simp only [eff, hb, e1, e2, callT]; exact h1, h2⟩
      · rename_i t x e1 e2
        obtain ⟨n, h1, h2⟩ := lenW_ok h
        exact ⟨_, _, by simp only [eff, hb, e1, e2, callT, h1]; rfl, h2⟩
      · rename_i k a _ b e2
        obtain ⟨c, rfl, h2⟩ := h
        exact ⟨_, _, by simp only [eff, hb, e2, callT], h2⟩
      · rename_i k a _ b e2
        obtain ⟨c, rfl, h2⟩ := h
        exact ⟨_, _, by simp only [eff, hb, e2, callT], h2⟩
      · exact h.elim
    · exact h.elim
end

end Go.Proofs.YtddikflnjloagaaGreatDoor
