/- The operations of a region: one behind the other, and in any order. -/
import Derived.Test.YtacfohamlkbpjaaTt
namespace Go.Proofs.Ytacfohamlkbpjaa
open Go Go.RowKit

def dstOf (ops : Array Oper) (i : Nat) : Option Nat := (ops[i]?).bind (·.dst)

abbrev PU := (TV × Upds) × Nat
def stepP (ops : Array Oper) (σ : St) (p : PU) : St := σ.app (dstOf ops p.2) p.1.1 p.1.2
def foldP (ops : Array Oper) (ps : List PU) (σ : St) : St := ps.foldl (stepP ops) σ

theorem foldP_append (ops : Array Oper) (a b : List PU) (σ : St) : foldP ops (a ++ b) σ = foldP ops b (foldP ops a σ) := by simp [foldP]

/-- All operations of a list, one behind the other. -/
def OpsOK (P : Program) (base : Option Nat) (ops : Array Oper) : List Nat → St → St → List (TV × Upds) → Prop
  | [], σ, σ', us => σ' = σ ∧ us = []
  | i :: is, σ, σ', u :: us => OpOK P (nidOf base σ i) ops i σ u.1 u.2 ∧ OpsOK P base ops is (σ.app (dstOf ops i) u.1 u.2) σ' us
  | _ :: _, _, _, [] => False

theorem opsOK_get {P : Program} {base : Option Nat} {ops : Array Oper} : ∀ {m i0 : Nat} {σ σ' : St} {us : List (TV × Upds)}, OpsOK P base ops (List.range' i0 m) σ σ' us →
    us.length = m ∧ σ' = foldP ops (us.zipIdx i0) σ ∧
    ∀ (j : Nat) (u : TV × Upds), us[j]? = some u → OpOK P (nidOf base (foldP ops ((us.zipIdx i0).take j) σ) (i0 + j)) ops (i0 + j) (foldP ops ((us.zipIdx i0).take j) σ) u.1 u.2
  | 0, i0, σ, σ', us, h => by
    obtain ⟨rfl, rfl⟩ := h
    exact ⟨rfl, rfl, fun j u hu => by simp at hu⟩
  | m + 1, i0, σ, σ', [], h => h.elim
  | m + 1, i0, σ, σ', u :: us, h => by
    obtain ⟨h1, h2⟩ := h
    obtain ⟨g1, g2, g3⟩ := opsOK_get (m := m) (i0 := i0 + 1) h2
    refine ⟨by simp [g1], by rw [g2]; simp [foldP, List.zipIdx_cons, stepP], fun j v hv => ?_⟩
    cases j with
    | zero => obtain rfl := Option.some.inj hv; exact h1
    | succ j =>
      have := g3 j v hv
      rw [show i0 + (j + 1) = i0 + 1 + j by omega]
      simpa [foldP, List.zipIdx_cons, stepP] using this

theorem statesT_get {ops : Array Oper} : ∀ {us : List (TV × Upds)} {σ : St} {i0 j : Nat} {d : St}, j < us.length → (statesT ops σ us i0).getD j d = foldP ops ((us.zipIdx i0).take j) σ
  | [], _, _, _, _, h => by simp at h
  | u :: us, σ, i0, 0, d, _ => by simp [statesT, foldP]
  | u :: us, σ, i0, j + 1, d, h => by
    have := statesT_get (ops := ops) (us := us) (σ := σ.app ((ops[i0]?).bind (·.dst)) u.1 u.2) (i0 := i0 + 1) (j := j) (d := d) (by simpa using h)
    simp only [statesT, List.getD_cons_succ, List.zipIdx_cons, List.take_succ_cons]
    rw [this]
    simp [foldP, stepP, dstOf]

/-! ### What agrees -/
theorem ups_skip {h : Nat → Option Node} {l : Upds} {x : Nat} (hx : x ∉ l.map (·.1)) : ups h l x = h x := by
  induction l generalizing h with
  | nil => rfl
  | cons p l ih =>
    simp only [List.map_cons, List.mem_cons, not_or] at hx
    show ups (upd h p.1 p.2) l x = h x
    rw [ih hx.2, upd_other _ _ hx.1]

theorem ups_congr {h h' : Nat → Option Node} {l : Upds} {x : Nat} (hx : h x = h' x) : ups h l x = ups h' l x := by
  induction l generalizing h h' with
  | nil => exact hx
  | cons p l ih =>
    show ups (upd h p.1 p.2) l x = ups (upd h' p.1 p.2) l x
    refine ih ?_
    unfold upd
    split
    · rfl
    · exact hx

theorem tv_app_ne {σ : St} {d : Option Nat} {r : TV} {l : Upds} {t : Nat} (h : d ≠ some t) : (σ.app d r l).tv t = σ.tv t := by
  rcases tv_app σ d r l t with e | ⟨e, _⟩
  · exact e
  · exact absurd e h

theorem tv_app_congr {σ τ : St} {d : Option Nat} {r : TV} {l l' : Upds} {t : Nat} (h : σ.tv t = τ.tv t) (hl : σ.t.length = τ.t.length) : (σ.app d r l).tv t = (τ.app d r l').tv t := by
  unfold St.app St.tv setT
  cases d with
  | none => exact h
  | some d =>
    show (σ.t.set d r).getD t _ = (τ.t.set d r).getD t _
    unfold St.tv at h
    simp only [List.getD_eq_getElem?_getD, List.getElem?_set] at h ⊢
    split
    · rw [hl]
    · exact h

def Wt (ops : Array Oper) (t : Nat) (p : PU) : Bool := dstOf ops p.2 == some t
def Wn (x : Nat) (p : PU) : Bool := (p.1.2.map (·.1)).contains x

theorem foldP_len (ops : Array Oper) : ∀ (ps : List PU) (σ : St), (foldP ops ps σ).t.length = σ.t.length
  | [], _ => rfl
  | p :: ps, σ => by
    show (foldP ops ps (stepP ops σ p)).t.length = _
    rw [foldP_len ops ps]; exact tv_app_len ..

theorem tv_fold (ops : Array Oper) (t : Nat) : ∀ (ps : List PU) (σ τ : St), σ.tv t = τ.tv t → σ.t.length = τ.t.length → (foldP ops ps σ).tv t = (foldP ops (ps.filter (Wt ops t)) τ).tv t
  | [], _, _, h, _ => h
  | p :: ps, σ, τ, h, hl => by
    show (foldP ops ps (stepP ops σ p)).tv t = _
    by_cases hw : Wt ops t p = true
    · rw [List.filter_cons_of_pos hw]
      show _ = (foldP ops _ (stepP ops τ p)).tv t
      exact tv_fold ops t ps _ _ (tv_app_congr h hl) (by rw [stepP, stepP, tv_app_len, tv_app_len, hl])
    · rw [List.filter_cons_of_neg hw]
      refine tv_fold ops t ps _ _ ?_ (by rw [stepP, tv_app_len, hl])
      rw [stepP, tv_app_ne (fun e => hw (by simp [Wt, e]))]
      exact h

theorem nd_fold (ops : Array Oper) (x : Nat) : ∀ (ps : List PU) (σ τ : St), σ.nd x = τ.nd x → (foldP ops ps σ).nd x = (foldP ops (ps.filter (Wn x)) τ).nd x
  | [], _, _, h => h
  | p :: ps, σ, τ, h => by
    show (foldP ops ps (stepP ops σ p)).nd x = _
    by_cases hw : Wn x p = true
    · rw [List.filter_cons_of_pos hw]
      show _ = (foldP ops _ (stepP ops τ p)).nd x
      exact nd_fold ops x ps _ _ (by rw [stepP, stepP, nd_app, nd_app]; exact ups_congr h)
    · rw [List.filter_cons_of_neg hw]
      refine nd_fold ops x ps _ _ ?_
      rw [stepP, nd_app, ups_skip (fun hc => hw (by unfold Wn; exact List.contains_iff_mem.2 hc))]
      exact h

theorem tv_fold' (ops : Array Oper) (t : Nat) {ps qs : List PU} (σ : St) (h : ps.filter (Wt ops t) = qs.filter (Wt ops t)) : (foldP ops ps σ).tv t = (foldP ops qs σ).tv t := by
  rw [tv_fold ops t ps σ σ rfl rfl, tv_fold ops t qs σ σ rfl rfl, h]

theorem nd_fold' (ops : Array Oper) (x : Nat) {ps qs : List PU} (σ : St) (h : ps.filter (Wn x) = qs.filter (Wn x)) : (foldP ops ps σ).nd x = (foldP ops qs σ).nd x := by
  rw [nd_fold ops x ps σ σ rfl, nd_fold ops x qs σ σ rfl, h]

theorem RSb.congr {k : Base} {n : Nat} {L0 : Nat → Nat × Nat} {bd bd' : Nat → Prop} {σ τ : St} {a : Act} {w : World} (h : RSb k n L0 bd σ a w) (ht : ∀ t, τ.tv t = σ.tv t) (hn : ∀ x, τ.nd x = σ.nd x) (hl : τ.t.length = σ.t.length) (hb : ∀ i, bd i → bd' i) :
    RSb k n L0 bd' τ a w := by
  obtain ⟨⟨L, F, U, m, h1, h2, h3⟩, h4, h5⟩ := h
  have e : τ.nd = σ.nd := funext hn
  exact ⟨⟨L, F, U, by rw [e]; exact m, fun i => by rw [e, ht]; exact h1 i, fun i hi => hb i (h2 i hi), h3⟩, by rw [hl]; exact h4, h5⟩

theorem foldl_h (l : Upds) (h : List (Option Node)) : h.length ≤ (l.foldl (fun h p => setH h p.1 p.2) h).length := (foldl_length l h).1

theorem app_h (σ : St) (d : Option Nat) (r : TV) (l : Upds) : σ.h.length ≤ (σ.app d r l).h.length ∧ ∀ x ∈ l.map (·.1), x < (σ.app d r l).h.length := by
  obtain ⟨h1, h2⟩ := foldl_length l σ.h
  refine ⟨h1, fun x hx => ?_⟩
  obtain ⟨p, hp, rfl⟩ := List.mem_map.1 hx
  exact h2 p hp

theorem foldP_h (ops : Array Oper) : ∀ (ps : List PU) (σ : St), σ.h.length ≤ (foldP ops ps σ).h.length ∧ ∀ p ∈ ps, ∀ x ∈ p.1.2.map (·.1), x < (foldP ops ps σ).h.length
  | [], σ => ⟨Nat.le_refl _, fun p hp => by cases hp⟩
  | p :: ps, σ => by
    obtain ⟨h1, h2⟩ := foldP_h ops ps (stepP ops σ p)
    obtain ⟨h3, h4⟩ := app_h σ (dstOf ops p.2) p.1.1 p.1.2
    refine ⟨Nat.le_trans h3 h1, fun q hq x hx => ?_⟩
    rcases List.mem_cons.1 hq with rfl | hq
    · exact Nat.lt_of_lt_of_le (h4 x hx) h1
    · exact h2 q hq x hx

section
variable {P : Program} {k : Base} {n : Nat} {L0 : Nat → Nat × Nat}

/-- One behind the other. -/
theorem ops_text {ops : Array Oper} {Q : Exit → Act → World → Prop} {σ' : St} (hQ : ∀ a' w', RS k n L0 σ' a' w' → Q .normal a' w') : ∀ {is : List Nat} {σ : St} {us : List (TV × Upds)} {a : Act} {w : World},
    OpsOK P none ops is σ σ' us → RS k n L0 σ a w → wpOps P ops Q is a w
  | [], σ, us, a, w, h, hrs => by
    obtain ⟨rfl, _⟩ := h
    exact hQ _ _ hrs
  | i :: is, σ, [], a, w, h, _ => h.elim
  | i :: is, σ, u :: us, a, w, h, hrs => by
    obtain ⟨h1, h2⟩ := h
    rw [wpOps_cons]
    refine h1 k n L0 _ σ a w Q _ hrs (fun o _ => ⟨fun _ _ => rfl, fun _ _ => rfl⟩) (fun j _ => ⟨nd_none (by show σ.h.length ≤ σ.h.length + j; omega), by show ¬ (σ.h.length + j < σ.h.length); omega⟩) (fun a' w' h' => ?_)
    refine ops_text hQ h2 ?_
    obtain ⟨g1, g2⟩ := app_h σ (dstOf ops i) u.1 u.2
    exact h'.congr (fun _ => rfl) (fun _ => rfl) rfl (fun x hx => hx.elim (fun q => Nat.lt_of_lt_of_le q g1) (g2 x))
end

end Go.Proofs.Ytacfohamlkbpjaa
