/- Steps that the machine does not notice. -/
import Derived.Test.YtacfohamlkbpjaaTw
namespace Go.Proofs.Ytacfohamlkbpjaa
open Go Go.RowKit

/-! ### New numbers for nodes; what is not led to goes -/
def lastIx : List Nat → Nat → Option Nat
  | [], _ => none
  | a :: l, x => match lastIx l x with
    | some j => some (j + 1)
    | none => match Nat.beq a x with
      | true => some 0
      | false => none

def renC (ρ : List Nat) : Cell → Cell
  | .ref id off n s => match lastIx ρ id with
    | some j => .ref j off n s
    | none => .dead
  | .ptr id off => match lastIx ρ id with
    | some j => .ptr j off
    | none => .dead
  | c => c

def renTV (ρ : List Nat) : TV → TV
  | .v b l => .v b (l.map (renC ρ))
  | .tup l => .tup (l.map fun p => (p.1, p.2.map (renC ρ)))
  | .undef => .undef

theorem idxOf_some : ∀ {l : List Nat} {x j : Nat}, lastIx l x = some j → l[j]? = some x
  | [], _, _, h => by simp [lastIx] at h
  | a :: l, x, j, h => by
    unfold lastIx at h
    split at h
    · rename_i i e
      obtain rfl := Option.some.inj h
      exact (show l[i]? = some x from idxOf_some e)
    · split at h
      · rename_i e
        obtain rfl := Option.some.inj h
        rw [Nat.eq_of_beq_eq_true e]; rfl
      · cases h

section
variable {k : Base} {h : Nat → Option Node} {w : World} {L : Nat → Nat × Nat} {F : Nat → List Nat} {U : Nat → Prop}

theorem ren_rep {S S' U' : Nat → Prop} {L' : Nat → Nat × Nat} {ρ : List Nat} (hS : ∀ b, S b → S' b) (hU : ∀ j id, ρ[j]? = some id → U id → U' j ∧ L' j = L id) {vs : List Value} {cs : List Cell} {G : List Nat}
    (hr : Rep S U L w vs cs G) : Rep S' U' L' w vs (cs.map (renC ρ)) G := by
  induction hr with
  | nil => exact .nil
  | prim h1 _ ih => exact .prim h1 ih
  | nils _ ih => exact .nils ih
  | ro h1 h2 h3 h4 hc h5 _ _ ih => exact .ro (fun e => hS _ (h1 e)) h2 h3 h4 hc ((rep_sub h5 hS).free hc) ih
  | own h1 h2 h3 h4 hc hz h5 _ _ ih => exact .own h1 h2 h3 h4 hc hz ((rep_sub h5 hS).free hc) ih
  | ro0 h1 _ ih => exact .ro0 h1 ih
  | own0 h1 _ ih => exact .own0 h1 ih
  | @ref id off n s cap vs cs F h1 h2 h3 hz _ ih =>
    simp only [List.map_cons, renC]
    split
    · rename_i j e
      obtain ⟨g1, g2⟩ := hU j id (idxOf_some e) h1
      have := @Rep.ref S' U' L' w j off n s cap vs (cs.map (renC ρ)) F g1 (by rw [g2]; exact h2) h3 hz ih
      rw [g2] at this; exact this
    · exact .dead rfl ih
  | @ref0 p id off s vs cs F h1 h2 _ ih =>
    simp only [List.map_cons, renC]
    split
    · rename_i j e
      exact .ref0 (hU j id (idxOf_some e) h1).1 h2 ih
    · exact .dead rfl ih
  | @ptr id off vs cs F h1 _ ih =>
    simp only [List.map_cons, renC]
    split
    · rename_i j e
      obtain ⟨g1, g2⟩ := hU j id (idxOf_some e) h1
      have := @Rep.ptr S' U' L' w j off vs (cs.map (renC ρ)) F g1 ih
      rw [g2] at this; exact this
    · exact .dead rfl ih
  | rop h1 h4 hc h5 _ _ ih => exact .rop (fun e => hS _ (h1 e)) h4 hc ((rep_sub h5 hS).free hc) ih
  | dead h1 _ ih => exact .dead h1 ih

theorem ren_rv {S S' U' : Nat → Prop} {L' : Nat → Nat × Nat} {ρ : List Nat} (hS : ∀ b, S b → S' b) (hU : ∀ j id, ρ[j]? = some id → U id → U' j ∧ L' j = L id) {x : Value} {b : Bool} {l : List Cell}
    (hr : RV S U L w x (b, l)) : RV S' U' L' w x (b, l.map (renC ρ)) := by
  cases b with
  | false => exact ren_rep hS hU hr
  | true => obtain ⟨vs, e, hr⟩ := hr; exact ⟨vs, e, ren_rep hS hU hr⟩

theorem ren_rtv {S S' U' : Nat → Prop} {L' : Nat → Nat × Nat} {ρ : List Nat} (hS : ∀ b, S b → S' b) (hU : ∀ j id, ρ[j]? = some id → U id → U' j ∧ L' j = L id) {x : Value} {tv : TV}
    (hr : RTV S U L w x tv) : RTV S' U' L' w x (renTV ρ tv) := by
  cases tv with
  | v b l => exact ren_rv hS hU hr
  | undef => trivial
  | tup l =>
    obtain ⟨xs, e, hl, hr⟩ := hr
    refine ⟨xs, e, by simpa using hl, fun i y c h1 h2 => ?_⟩
    rw [List.getElem?_map] at h2
    cases hq : l[i]? with
    | none => rw [hq] at h2; simp at h2
    | some q =>
      rw [hq] at h2
      obtain rfl := Option.some.inj h2
      exact ren_rv hS hU (hr i y q h1 hq)

theorem gh_ren {n : Nat} {σ σ' : St} (ρ : List (Nat × Bool)) (hn : (ρ.take n).map (·.1) = List.range n) (hd : ∀ (i j : Nat) nd nd' p q, σ'.nd i = some nd → σ'.nd j = some nd' → ρ[i]? = some p → ρ[j]? = some q → p.1 = q.1 → i = j)
    (hnd : ∀ j nd, σ'.nd j = some nd → ∃ p cs, ρ[j]? = some p ∧ σ.nd p.1 = some (nd.1, cs) ∧ nd.2 = (if p.2 then cs.map (renC (ρ.map (·.1))) else cs) ∧ (p.2 = false → closedL cs = true))
    (htv : ∀ i, σ'.tv i = .undef ∨ σ'.tv i = renTV (ρ.map (·.1)) (σ.tv i)) (hlt : σ'.t.length = σ.t.length) (hlh : σ'.h.length = ρ.length) : Gh n σ σ' := by
  intro k L0 a w hrs
  obtain ⟨⟨L, F, U, m, ht, hU, hnn⟩, hlen, hdf⟩ := hrs
  let L' : Nat → Nat × Nat := fun j => match ρ[j]? with | some p => L p.1 | none => (0, 0)
  let F' : Nat → List Nat := fun j => match ρ[j]? with | some p => F p.1 | none => []
  let U' : Nat → Prop := fun j => ∃ p, ρ[j]? = some p ∧ U p.1
  have hneq : ∀ p : Nat × Bool, ∀ cs : List Cell, (if p.2 then cs.map (renC (ρ.map (·.1))) else cs) ≠ [] ↔ cs ≠ [] := fun p cs => by split <;> simp
  have own : ∀ j, Own σ'.nd L' F' j = [] ∨ ∃ p, ρ[j]? = some p ∧ Own σ'.nd L' F' j = Own σ.nd L F p.1 ∧ ∃ nd, σ'.nd j = some nd := by
    intro j
    cases hj : σ'.nd j with
    | none => left; simp [Own, hj]
    | some nd =>
      obtain ⟨p, cs, h1, h2, h3, hsh⟩ := hnd j nd hj
      obtain ⟨o, cs'⟩ := nd
      simp only at h2 h3
      refine .inr ⟨p, h1, ?_, _, rfl⟩
      cases o with
      | false => simp [Own, hj, h2]
      | true =>
        rw [own_of hj, own_of h2]
        simp only [L', F', h1]
        by_cases hz : cs = []
        · subst hz
          have : cs' = [] := by rw [h3]; split <;> rfl
          rw [this]
        · rw [OB_ne hz, OB_ne (by rw [h3]; exact (hneq p cs).2 hz)]
  have hS : ∀ b, SS k σ.nd L F w b → SS k σ'.nd L' F' w b := fun b hb => ⟨hb.1, hb.2.1, fun j hj => by
    rcases own j with e | ⟨p, _, e, _⟩
    · rw [e] at hj; cases hj
    · rw [e] at hj; exact hb.2.2 _ hj⟩
  have hUU : ∀ j id, (ρ.map (·.1))[j]? = some id → U id → U' j ∧ L' j = L id := fun j id hj hu => by
    rw [List.getElem?_map] at hj
    cases hq : ρ[j]? with
    | none => rw [hq] at hj; simp at hj
    | some p =>
      rw [hq] at hj
      obtain rfl := Option.some.inj hj
      exact ⟨⟨p, hq, hu⟩, by simp [L', hq]⟩
  refine ⟨⟨L', F', U', ⟨m.S0lt, m.B0lt, fun j nd hj => ?_, fun j => ?_, fun i j hij b hb hc => ?_, fun j b hb => ?_, m.frame, m.os, m.tape, m.output, m.grows⟩, fun i => ?_, fun j hj => ?_, fun i hi => ?_⟩, ?_, hdf⟩
  · obtain ⟨p, cs, h1, h2, h3, hsh⟩ := hnd j nd hj
    obtain ⟨hu, us, g1, g2, g3, g4⟩ := m.node _ _ h2
    simp only at g2 g3 g4
    have eL : L' j = L p.1 := by simp [L', h1]
    have eF : F' j = F p.1 := by simp [F', h1]
    rw [eL, eF, h3]
    refine ⟨⟨p, h1, hu⟩, us, g1, ?_, fun hne => g3 ((hneq p cs).1 hne), fun e => ⟨(g4 e).1, fun hne => hS _ ((g4 e).2 ((hneq p cs).1 hne))⟩⟩
    split
    · exact ren_rep hS hUU g2
    · rename_i hf
      exact (rep_sub g2 hS).free (hsh (by simpa using hf))
  · rcases own j with e | ⟨p, _, e, _⟩
    · rw [e]; exact List.nodup_nil
    · rw [e]; exact m.nodup _
  · rcases own i with e | ⟨p, e1, e, nd1, k1⟩
    · rw [e] at hb; cases hb
    · rcases own j with e' | ⟨q, e2, e', nd2, k2⟩
      · rw [e'] at hc; cases hc
      · rw [e] at hb; rw [e'] at hc
        exact m.disj p.1 q.1 (fun e3 => hij (hd i j _ _ p q k1 k2 e1 e2 e3)) b hb hc
  · rcases own j with e | ⟨p, _, e, _⟩
    · rw [e] at hb; cases hb
    · rw [e] at hb; exact m.inB _ b hb
  · have := htv i
    rcases this with e | e
    · rw [e]; trivial
    · rw [e]; exact ren_rtv hS hUU (ht i)
  · obtain ⟨p, hp, _⟩ := hj
    show j < σ'.h.length
    rw [hlh]; exact (List.getElem?_eq_some_iff.1 hp).1
  · have h1 : ((ρ.take n).map (·.1))[i]? = some i := by rw [hn]; simp [hi]
    rw [List.getElem?_map, List.getElem?_take] at h1
    rw [if_pos hi] at h1
    cases hq : ρ[i]? with
    | none => rw [hq] at h1; simp at h1
    | some p =>
      rw [hq] at h1
      have e : p.1 = i := Option.some.inj h1
      obtain ⟨g1, g2⟩ := hnn i hi
      exact ⟨⟨p, hq, by rw [e]; exact g1⟩, by simp [L', hq, e, g2]⟩
  · rw [hlt]; exact hlen

/-! ### Parts of nodes -/
theorem rs_of {n : Nat} {σ τ : St} {k : Base} {L0 : Nat → Nat × Nat} {a : Act} {w : World} {L F U L' F' U'} (ht : ∀ i, RTV (SS k σ.nd L F w) U L w (a.tmps.getD i undef) (σ.tv i)) (hnn : ∀ i, i < n → U i ∧ L i = L0 i) (hlen : σ.t.length ≤ a.tmps.size) (hd : a.defers = [])
    (m' : Mem k τ.nd w L' F' U') (mo : Mono k σ.nd w L F U τ.nd w L' F' U') (htv : τ.t = σ.t) (hU : ∀ i, U' i → i < τ.h.length) : RS k n L0 τ a w :=
  ⟨⟨L', F', U', m', fun i => by have := mo.rtv (ht i); unfold St.tv at this ⊢; rw [htv]; exact this, hU, fun i hi => by
    obtain ⟨h1, h2⟩ := hnn i hi
    obtain ⟨h3, h4⟩ := mo.2.1 i h1
    exact ⟨h3, h4.trans h2⟩⟩, by rw [htv]; exact hlen, hd⟩

theorem gh_freeze {n i : Nat} {σ : St} {cs : List Cell} (hi : σ.nd i = some (true, cs)) : Gh n σ ⟨σ.t, setH σ.h i (some (false, roifyL cs))⟩ := by
  intro k L0 a w hrs
  obtain ⟨⟨L, F, U, m, ht, hU, hnn⟩, hlen, hdf⟩ := hrs
  obtain ⟨F', m', mo⟩ := m.freeze hi
  have e : (⟨σ.t, setH σ.h i (some (false, roifyL cs))⟩ : St).nd = upd σ.nd i (some (false, roifyL cs)) := ndOf_setH _ _ _
  rw [← e] at m' mo
  exact rs_of ht hnn hlen hdf m' mo rfl (fun j hj => by
    show j < (setH σ.h i _).length
    rw [setH_length]; have := hU j hj; omega)

theorem gh_inline {n i j c s : Nat} {σ : St} {A C cs : List Cell} (hij : i ≠ j) (hi : σ.nd i = some (true, A ++ [.ref j 0 c s] ++ C)) (hj : σ.nd j = some (true, cs)) (hs : cs.all Cell.shal = true) (hl : cs.length = c * s) (hsz : s ≠ 0) :
    Gh n σ ⟨σ.t, setH (setH σ.h j none) i (some (true, A ++ [.sl true c s cs] ++ C))⟩ := by
  intro k L0 a w hrs
  obtain ⟨⟨L, F, U, m, ht, hU, hnn⟩, hlen, hdf⟩ := hrs
  obtain ⟨F', m', mo⟩ := m.inline hij hi hj hs hl hsz
  have e : (⟨σ.t, setH (setH σ.h j none) i (some (true, A ++ [.sl true c s cs] ++ C))⟩ : St).nd = upd (upd σ.nd j none) i (some (true, A ++ [.sl true c s cs] ++ C)) := by
    rw [nd_eq]; simp only [ndOf_setH]; rfl
  rw [← e] at m' mo
  exact rs_of ht hnn hlen hdf m' mo rfl (fun x hx => by
    show x < (setH (setH σ.h j none) i _).length
    rw [setH_length, setH_length]; have := hU x hx; omega)

theorem gh_drawOut {n i c s : Nat} {σ : St} {A C cs : List Cell} (hi : σ.nd i = some (true, A ++ [.sl true c s cs] ++ C)) :
    Gh n σ ⟨σ.t, setH (setH σ.h i (some (true, A ++ [.ref σ.h.length 0 c s] ++ C))) σ.h.length (some (true, cs))⟩ := by
  intro k L0 a w hrs
  obtain ⟨⟨L, F, U, m, ht, hU, hnn⟩, hlen, hdf⟩ := hrs
  obtain ⟨L', F', m', mo⟩ := m.drawOut (nid := σ.h.length) hi (nd_none (Nat.le_refl _)) (fun hu => by have := hU _ hu; omega)
  have e : (⟨σ.t, setH (setH σ.h i (some (true, A ++ [.ref σ.h.length 0 c s] ++ C))) σ.h.length (some (true, cs))⟩ : St).nd = upd (upd σ.nd i (some (true, A ++ [.ref σ.h.length 0 c s] ++ C))) σ.h.length (some (true, cs)) := by
    rw [nd_eq]; simp only [ndOf_setH]; rfl
  rw [← e] at m' mo
  exact rs_of ht hnn hlen hdf m' mo rfl (fun x hx => by
    show x < (setH (setH σ.h i _) σ.h.length _).length
    rw [setH_length, setH_length]
    rcases hx with hx | hx
    · have := hU x hx; omega
    · omega)

/-! ### The same, told in other words -/
/-- A cell may be told so, too. -/
inductive CW (h : Nat → Option Node) : Cell → Cell → Prop
  | refl {c} : CW h c c
  | nilR {s} : CW h .nil (.sl false 0 s [])
  | nilO {s} : CW h .nil (.sl true 0 s [])
  | zero {s} : CW h (.sl true 0 s []) (.sl false 0 s [])
  | look {id off n s cs} : h id = some (false, cs) → off + n * s ≤ cs.length → ((cs.drop off).take (n * s)).all Cell.shal = true → CW h (.ref id off n s) (.sl false n s ((cs.drop off).take (n * s)))
  | rop {id off cs} : h id = some (false, cs) → cs.all Cell.shal = true → CW h (.ptr id off) (.rop (cs.drop off))

inductive CWs (h : Nat → Option Node) : List Cell → List Cell → Prop
  | nil : CWs h [] []
  | cons {c c' cs cs'} : CW h c c' → CWs h cs cs' → CWs h (c :: cs) (c' :: cs')

theorem CWs.refl {h : Nat → Option Node} : ∀ cs, CWs h cs cs
  | [] => .nil
  | _ :: cs => .cons .refl (CWs.refl cs)

theorem cw_rep (m : Mem k h w L F U) {x : Value} {c c' : Cell} {G : List Nat} (hr : Rep (SS k h L F w) U L w [x] [c] G) (hc : CW h c c') : Rep (SS k h L F w) U L w [x] [c'] G := by
  cases hc with
  | refl => exact hr
  | nilR => cases hr with | nils hn => exact .ro0 (fun _ => rfl) hn
  | nilO => cases hr with | nils hn => exact .own0 (.inl rfl) hn
  | zero =>
    cases hr with
    | own _ _ _ _ _ hz _ _ => exact absurd rfl hz
    | own0 hp hn => exact ro_zero hp hn
  | @look id off n s cs hid hle hs =>
    obtain ⟨_, us, g1, g2, g3, g4⟩ := m.node id _ hid
    obtain ⟨g5, g6⟩ := g4 rfl
    simp only at g2
    rw [g5] at g2
    have hl := g2.length
    have hsub := rep_take (n * s) (rep_drop off g2)
    have hcl := hsub.closed hs
    cases hr with
    | ref0 hU hp hnil => simpa using ro_zero (s := s) hp hnil
    | ref hU hW hn hz hnil =>
      exact .ro (us := (us.drop off).take (n * s)) (fun hne => g6 (fun e => hne (by simp only at e; rw [e]; simp))) (by simp; omega) hn (rangeAt_take (rangeAt_drop g1 off) _) hcl hsub hnil
  | @rop id off cs hid hs =>
    obtain ⟨_, us, g1, g2, g3, g4⟩ := m.node id _ hid
    obtain ⟨g5, g6⟩ := g4 rfl
    simp only at g2
    rw [g5] at g2
    have hsub := rep_drop off g2
    have hcl := hsub.closed (List.all_eq_true.2 fun c hc => List.all_eq_true.1 hs c (List.mem_of_mem_drop hc))
    cases hr with
    | ptr hU hnil =>
      exact .rop (us := us.drop off) (fun hne => g6 (fun e => hne (by simp only at e; rw [e]; simp))) (rangeAt_drop g1 off) hcl hsub hnil

theorem cws_rep (m : Mem k h w L F U) {cs cs' : List Cell} (hc : CWs h cs cs') : ∀ {vs : List Value} {G : List Nat}, Rep (SS k h L F w) U L w vs cs G → Rep (SS k h L F w) U L w vs cs' G := by
  induction hc with
  | nil => exact fun hr => hr
  | cons h1 _ ih =>
    intro vs G hr
    match vs, hr with
    | [], hr => have := hr.length; simp at this
    | v :: vs, hr =>
      obtain ⟨G1, G2, rfl, r1, r2⟩ := rep_cons hr
      exact (cw_rep m r1 h1).append (ih r2)

inductive TW (h : Nat → Option Node) : TV → TV → Prop
  | v {b l l'} : CWs h l l' → TW h (.v b l) (.v b l')
  | undef {tv} : TW h tv .undef

theorem tw_rtv (m : Mem k h w L F U) {x : Value} {tv tv' : TV} (hr : RTV (SS k h L F w) U L w x tv) (ht : TW h tv tv') : RTV (SS k h L F w) U L w x tv' := by
  cases ht with
  | undef => trivial
  | @v b l l' hc =>
    cases b with
    | false => exact cws_rep m hc hr
    | true => obtain ⟨vs, e, hr⟩ := hr; exact ⟨vs, e, cws_rep m hc hr⟩

/-- A temp, told otherwise. -/
theorem gh_tmp {n : Nat} {σ : St} (i : Nat) {tv' : TV} (ht' : TW σ.nd (σ.tv i) tv') : Gh n σ ⟨σ.t.set i tv', σ.h⟩ := by
  intro k L0 a w hrs
  obtain ⟨⟨L, F, U, m, ht, hU, hnn⟩, hlen, hdf⟩ := hrs
  refine ⟨⟨L, F, U, m, fun j => ?_, hU, hnn⟩, by simpa using hlen, hdf⟩
  show RTV _ _ _ _ _ ((σ.t.set i tv').getD j .undef)
  rw [List.getD_eq_getElem?_getD, List.getElem?_set]
  have hj := ht j
  split
  · rename_i e
    subst e
    split
    · exact tw_rtv m hj ht'
    · trivial
  · unfold St.tv at hj; rw [List.getD_eq_getElem?_getD] at hj; exact hj

/-- A node, told otherwise. -/
theorem gh_node {n : Nat} {σ : St} (i : Nat) {o : Bool} {cs cs' : List Cell} (hi : σ.nd i = some (o, cs)) (hc : CWs σ.nd cs cs') : Gh n σ ⟨σ.t, setH σ.h i (some (o, cs'))⟩ := by
  intro k L0 a w hrs
  obtain ⟨⟨L, F, U, m, ht, hU, hnn⟩, hlen, hdf⟩ := hrs
  have hlc : cs'.length = cs.length := by
    clear hi
    induction hc with
    | nil => rfl
    | cons _ _ ih => simp [ih]
  have hne : cs' ≠ [] ↔ cs ≠ [] := by rw [← List.length_pos_iff, ← List.length_pos_iff, hlc]
  have e : (⟨σ.t, setH σ.h i (some (o, cs'))⟩ : St).nd = upd σ.nd i (some (o, cs')) := ndOf_setH _ _ _
  have hO : ∀ x, Own (upd σ.nd i (some (o, cs'))) L F x = Own σ.nd L F x := fun x => by
    by_cases ex : x = i
    · subst ex
      cases o with
      | false => simp [Own, upd_same, hi]
      | true =>
        rw [own_of (upd_same _ _ _), own_of hi]
        by_cases hz : cs = []
        · subst hz
          have : cs' = [] := List.eq_nil_of_length_eq_zero (by simpa using hlc)
          rw [this]
        · rw [OB_ne hz, OB_ne (hne.2 hz)]
    · simp [Own, upd_other _ _ ex]
  obtain ⟨m', mo⟩ := m.master (h' := upd σ.nd i (some (o, cs'))) (w' := w) (L' := L) (F' := F) (U' := U) (Grows.refl w) rfl rfl rfl (fun x b hb => .inl ⟨x, by rw [hO] at hb; exact hb⟩) (fun x => by rw [hO]; exact m.nodup x)
    (fun x y hxy b hb hc' => by rw [hO] at hb hc'; exact m.disj x y hxy b hb hc') (fun _ _ _ => rfl) (fun _ hx => ⟨hx, rfl⟩)
    (fun mo x nd hx => by
      by_cases ex : x = i
      · subst ex
        rw [upd_same] at hx
        obtain rfl := Option.some.inj hx
        obtain ⟨hu, us, g1, g2, g3, g4⟩ := m.node x _ hi
        simp only at g2 g3 g4
        exact ⟨hu, us, g1, mo.repF (cws_rep m hc g2) (fun _ _ => rfl), fun q => g3 (hne.1 q), fun q => ⟨(g4 q).1, fun q' => (mo.1 _ ((g4 q).2 (hne.1 q'))).1⟩⟩
      · rw [upd_other _ _ ex] at hx
        exact m.keep mo hx rfl (fun _ _ => rfl))
  rw [← e] at m' mo
  exact rs_of ht hnn hlen hdf m' mo rfl (fun j hj => by
    show j < (setH σ.h i _).length
    rw [setH_length]; have := hU j hj; omega)

/-- A nil slice in a temp is a new node without elements. -/
theorem gh_virt {n : Nat} {σ : St} (i s : Nat) (hi : σ.tv i = .v false [.nil]) : Gh n σ ⟨σ.t.set i (.v false [.ref σ.h.length 0 0 s]), setH σ.h σ.h.length (some (true, []))⟩ := by
  intro k L0 a w hrs
  obtain ⟨⟨L, F, U, m, ht, hU, hnn⟩, hlen, hdf⟩ := hrs
  obtain ⟨m', mo⟩ := m.virt (nid := σ.h.length) (nd_none (Nat.le_refl _)) (fun hu => by have := hU _ hu; omega)
  have e : (⟨σ.t.set i (.v false [.ref σ.h.length 0 0 s]), setH σ.h σ.h.length (some (true, []))⟩ : St).nd = upd σ.nd σ.h.length (some (true, [])) := ndOf_setH _ _ _
  rw [← e] at m' mo
  refine ⟨⟨_, _, _, m', fun j => ?_, fun j hj => ?_, fun j hj => ?_⟩, by simpa using hlen, hdf⟩
  · show RTV _ _ _ _ _ ((σ.t.set i _).getD j .undef)
    rw [List.getD_eq_getElem?_getD, List.getElem?_set]
    have hj := mo.rtv (ht j)
    split
    · rename_i e2
      subst e2
      split
      · rw [hi] at hj
        show Rep _ _ _ _ _ _ _
        generalize a.tmps.getD i undef = x at hj
        obtain rfl := rep_nilc hj
        exact .ref0 (.inr rfl) (.inl rfl) .nil
      · trivial
    · unfold St.tv at hj; rw [List.getD_eq_getElem?_getD] at hj; exact hj
  · show j < (setH σ.h σ.h.length _).length
    rw [setH_length]
    rcases hj with hj | hj
    · have := hU j hj; omega
    · omega
  · obtain ⟨h1, h2⟩ := hnn j hj
    obtain ⟨h3, h4⟩ := mo.2.1 j h1
    exact ⟨h3, h4.trans h2⟩
end

end Go.Proofs.Ytacfohamlkbpjaa
