/- A call, from the caller's side, part 2: what it leaves. -/
import Derived.Test.YtacfohamlkbpjaaTq
namespace Go.Proofs.Ytacfohamlkbpjaa
open Go Go.RowKit

abbrev Locs := List ((Nat × Nat) × List Nat × List Nat)
def Locs.blocks (l : Locs) : List Nat := l.flatMap fun p => p.2.2

/-- What the nodes of results have. -/
def LocsOK (S : Nat → Prop) (w : World) (locs : Locs) (cs : List (List Cell)) : Prop :=
  locs.length = cs.length ∧ ∀ (i : Nat) p c, locs[i]? = some p → cs[i]? = some c → ∃ vs, w.rangeAt p.1.1 p.1.2 vs ∧ Rep S noU noL w vs c p.2.1 ∧ (c ≠ [] → Wr w p.1.1 (p.1.2 + vs.length)) ∧ closedL c = true ∧ p.2.2 = OB p.1.1 p.2.1 c

def LocsAt (nid : Nat) (locs : Locs) (U' : Nat → Prop) (L' : Nat → Nat × Nat) : Prop := ∀ (i : Nat) p, locs[i]? = some p → U' (nid + i) ∧ L' (nid + i) = p.1

theorem LocsAt.tail {nid : Nat} {p : (Nat × Nat) × List Nat × List Nat} {locs : Locs} {U' L'} (h : LocsAt nid (p :: locs) U' L') : LocsAt (nid + 1) locs U' L' := fun i q hq => by
  have := h (i + 1) q hq
  rwa [show nid + (i + 1) = nid + 1 + i by omega] at this

theorem LocsAt.left {nid : Nat} {l1 l2 : Locs} {U' L'} (h : LocsAt nid (l1 ++ l2) U' L') : LocsAt nid l1 U' L' := fun i q hq => h i q (by rw [List.getElem?_append_left (List.getElem?_eq_some_iff.1 hq).1]; exact hq)
theorem LocsAt.right {nid : Nat} {l1 l2 : Locs} {U' L'} (h : LocsAt nid (l1 ++ l2) U' L') : LocsAt (nid + l1.length) l2 U' L' := fun i q hq => by
  have := h (l1.length + i) q (by rw [List.getElem?_append_right (by omega)]; simpa using hq)
  rwa [← Nat.add_assoc] at this

theorem LocsOK.append {S : Nat → Prop} {w : World} {l1 l2 : Locs} {c1 c2 : List (List Cell)} (h1 : LocsOK S w l1 c1) (h2 : LocsOK S w l2 c2) : LocsOK S w (l1 ++ l2) (c1 ++ c2) := by
  refine ⟨by simp [h1.1, h2.1], fun i p c hp hc => ?_⟩
  by_cases hi : i < l1.length
  · rw [List.getElem?_append_left hi] at hp
    rw [List.getElem?_append_left (by rw [← h1.1]; exact hi)] at hc
    exact h1.2 i p c hp hc
  · rw [List.getElem?_append_right (by omega)] at hp
    rw [List.getElem?_append_right (by rw [← h1.1]; omega), ← h1.1] at hc
    exact h2.2 _ p c hp hc

theorem rep_pure {S U L w} {vs : List Value} {cs : List Cell} {G : List Nat} (hr : Rep S U L w vs cs G) (hp : pureL cs = true) (S' : Nat → Prop) : Rep S' U L w vs cs G := by
  induction hr with
  | nil => exact .nil
  | prim h1 _ ih => exact .prim h1 (ih (by simp [pureL] at hp; exact hp.2))
  | nils _ ih => exact .nils (ih (by simp [pureL] at hp; exact hp.2))
  | @ro b o n cap s l us vs cs F h1 h2 h3 h4 hc h5 _ ih1 ih =>
    simp [pureL, Cell.pure] at hp
    obtain ⟨hp1, hp2⟩ := hp
    subst hp1
    exact .ro (fun e => absurd rfl e) h2 h3 h4 hc (ih1 rfl) (ih hp2)
  | own h1 h2 h3 h4 hc hz _ _ ih1 ih => simp [pureL, Cell.pure] at hp; exact .own h1 h2 h3 h4 hc hz (ih1 hp.1) (ih hp.2)
  | ref h1 h2 h3 hz _ ih => exact .ref h1 h2 h3 hz (ih (by simp [pureL] at hp; exact hp.2))
  | ro0 h1 _ ih => exact .ro0 h1 (ih (by simp [pureL] at hp; exact hp.2))
  | own0 h1 _ ih => exact .own0 h1 (ih (by simp [pureL] at hp; exact hp.2))
  | ref0 h1 h2 _ ih => exact .ref0 h1 h2 (ih (by simp [pureL] at hp; exact hp.2))
  | ptr h1 _ ih => exact .ptr h1 (ih (by simp [pureL] at hp; exact hp.2))
  | rop h1 h4 hc h5 _ _ ih => simp [pureL, Cell.pure] at hp
  | dead h1 _ ih => exact .dead h1 (ih (by simp [pureL] at hp; exact hp.2))

theorem pure_tail {S S' : Nat → Prop} {c : Cell} {cs : List Cell} (h : (∀ b, S b → S' b) ∨ pureL (c :: cs) = true) : (∀ b, S b → S' b) ∨ pureL cs = true :=
  h.imp id fun q => by simp only [pureL, Bool.and_eq_true] at q; exact q.2

theorem placeL_rep {S : Nat → Prop} {w : World} {us : List Value} {cs : List Cell} {G : List Nat} (hr : Rep S noU noL w us cs G) : ∀ nid, ∃ locs : Locs, G = locs.blocks ∧ LocsOK S w locs (ownsL cs) ∧
    ∀ S' U' L', ((∀ b, S b → S' b) ∨ pureL cs = true) → LocsAt nid locs U' L' → Rep S' U' L' w us (placeL nid cs) [] := by
  induction hr with
  | nil => intro nid; exact ⟨[], rfl, ⟨rfl, fun i p c h => by simp at h⟩, fun _ _ _ _ _ => .nil⟩
  | prim h1 _ ih => intro nid; obtain ⟨locs, e1, e2, e3⟩ := ih nid; exact ⟨locs, e1, e2, fun S' U' L' hp h => .prim h1 (e3 S' U' L' (pure_tail hp) h)⟩
  | nils _ ih => intro nid; obtain ⟨locs, e1, e2, e3⟩ := ih nid; exact ⟨locs, e1, e2, fun S' U' L' hp h => .nils (e3 S' U' L' (pure_tail hp) h)⟩
  | @ro b o n cap s l us vs cs F h1 h2 h3 h4 hc h5 _ _ ih =>
    intro nid; obtain ⟨locs, e1, e2, e3⟩ := ih nid
    refine ⟨locs, e1, e2, fun S' U' L' hp h => ?_⟩
    rcases hp with hp | hp
    · exact .ro (fun hl => hp _ (h1 hl)) h2 h3 h4 hc ((rep_sub h5 hp).free hc) (e3 S' U' L' (.inl hp) h)
    · simp [pureL, Cell.pure] at hp
      obtain ⟨hp1, hp2⟩ := hp
      subst hp1
      exact .ro (fun e => absurd rfl e) h2 h3 h4 hc ((rep_pure h5 rfl S').free hc) (e3 S' U' L' (.inr hp2) h)
  | @own b o n cap s l us' F1 vs cs' F' h1 h2 h3 h4 hc hz h5 _ _ ih =>
    intro nid
    obtain ⟨locs, e1, e2, e3⟩ := ih (nid + 1)
    refine ⟨((b, o), F1, b :: F1) :: locs, by simp [Locs.blocks, e1], ⟨by simp [ownsL, e2.1], fun i p c hp hc' => ?_⟩, fun S' U' L' hpp h => ?_⟩
    · cases i with
      | zero =>
        obtain rfl := Option.some.inj hp
        obtain rfl := Option.some.inj hc'
        have := h5.length
        have := Nat.mul_le_mul_right s h3
        exact ⟨us', h4, h5, fun _ => h1.mono (by simp only; omega), hc, (OB_ne hz).symm⟩
      | succ i => exact e2.2 i p c hp hc'
    · obtain ⟨g1, g2⟩ := h 0 _ rfl
      have hrest := e3 S' U' L' (pure_tail hpp) h.tail
      simp only [Nat.add_zero] at g1 g2
      have hn0 : n ≠ 0 := fun e => hz (by subst e; simpa using h2)
      have := @Rep.ref S' U' L' w nid 0 n s cap vs (placeL (nid + 1) cs') [] g1 (by rw [g2]; simpa using h1) h3 hn0 hrest
      rw [g2] at this
      simpa [placeL] using this
  | @own0 pp s vs cs' F' h1 _ ih =>
    intro nid
    obtain ⟨locs, e1, e2, e3⟩ := ih (nid + 1)
    refine ⟨((0, 0), [], []) :: locs, by simp [Locs.blocks, e1], ⟨by simp [ownsL, e2.1], fun i p c hp hc' => ?_⟩, fun S' U' L' hpp h => ?_⟩
    · cases i with
      | zero =>
        obtain rfl := Option.some.inj hp
        obtain rfl := Option.some.inj hc'
        exact ⟨[], rangeAt_nil _ _ _, .nil, fun q => absurd rfl q, rfl, rfl⟩
      | succ i => exact e2.2 i p c hp hc'
    · obtain ⟨g1, _⟩ := h 0 _ rfl
      have hrest := e3 S' U' L' (pure_tail hpp) h.tail
      simp only [Nat.add_zero] at g1
      exact .ref0 g1 h1 hrest
  | ro0 h1 _ ih => intro nid; obtain ⟨locs, e1, e2, e3⟩ := ih nid; exact ⟨locs, e1, e2, fun S' U' L' hp h => .ro0 h1 (e3 S' U' L' (pure_tail hp) h)⟩
  | ref0 h1 _ _ _ => exact h1.elim
  | ref h1 _ _ _ _ _ => exact h1.elim
  | ptr h1 _ _ => exact h1.elim
  | rop h1 h4 hc h5 _ _ ih =>
    intro nid; obtain ⟨locs, e1, e2, e3⟩ := ih nid
    refine ⟨locs, e1, e2, fun S' U' L' hp h => ?_⟩
    rcases hp with hp | hp
    · exact .rop (fun e => hp _ (h1 e)) h4 hc ((rep_sub h5 hp).free hc) (e3 S' U' L' (.inl hp) h)
    · simp [pureL, Cell.pure] at hp
  | dead h1 _ ih => intro nid; obtain ⟨locs, e1, e2, e3⟩ := ih nid; exact ⟨locs, e1, e2, fun S' U' L' hp h => .dead h1 (e3 S' U' L' (pure_tail hp) h)⟩

theorem placeV_rep {S : Nat → Prop} {w : World} : ∀ {xs : List Value} {vals : List (Bool × List Cell)} {G : List Nat}, RVs S w xs vals G → ∀ nid, ∃ locs : Locs, G = locs.blocks ∧ LocsOK S w locs (ownsV vals) ∧
    ∀ S' U' L', ((∀ b, S b → S' b) ∨ vals.all (fun p => pureL p.2) = true) → LocsAt nid locs U' L' → xs.length = (placeV nid vals).length ∧ ∀ (i : Nat) x v, xs[i]? = some x → (placeV nid vals)[i]? = some v → RV S' U' L' w x v
  | [], [], G, h, nid => ⟨[], h, ⟨rfl, fun i p c h => by simp at h⟩, fun _ _ _ _ _ => ⟨rfl, fun i x v h => by simp at h⟩⟩
  | [], _ :: _, _, h, _ => h.elim
  | _ :: _, [], _, h, _ => h.elim
  | x :: xs, (b, l) :: vs, G, h, nid => by
    obtain ⟨G1, G2, rfl, h1, h2⟩ := h
    have hx : ∃ us, (b = false → us = [x]) ∧ (b = true → ∃ ws : Array Value, x = .agg ws ∧ us = ws.toList) ∧ Rep S noU noL w us l G1 := by
      cases b with
      | false => exact ⟨[x], fun _ => rfl, (fun e => by cases e), h1⟩
      | true => obtain ⟨ws, e, h1⟩ := h1; exact ⟨ws.toList, (fun e => by cases e), fun _ => ⟨ws, e, rfl⟩, h1⟩
    obtain ⟨us, hu1, hu2, hu⟩ := hx
    obtain ⟨l1, e1, e2, e3⟩ := placeL_rep hu nid
    obtain ⟨l2, f1, f2, f3⟩ := placeV_rep h2 (nid + l1.length)
    refine ⟨l1 ++ l2, by simp [Locs.blocks, e1, f1], e2.append f2, fun S' U' L' hp hat => ?_⟩
    have hp1 : (∀ b, S b → S' b) ∨ pureL l = true := hp.imp id fun q => by simp only [List.all_cons, Bool.and_eq_true] at q; exact q.1
    have hp2 : (∀ b, S b → S' b) ∨ vs.all (fun p => pureL p.2) = true := hp.imp id fun q => by simp only [List.all_cons, Bool.and_eq_true] at q; exact q.2
    have g1 := e3 S' U' L' hp1 hat.left
    obtain ⟨g2, g3⟩ := f3 S' U' L' hp2 hat.right
    rw [e2.1] at g2 g3
    refine ⟨by simp [placeV, g2], fun i y v hy hv => ?_⟩
    cases i with
    | zero =>
      obtain rfl := Option.some.inj hy
      obtain rfl := Option.some.inj hv
      cases b with
      | false => rw [hu1 rfl] at g1; exact g1
      | true => obtain ⟨ws, e, e'⟩ := hu2 rfl; rw [e'] at g1; exact ⟨ws, e, g1⟩
    | succ i => exact g3 i y v hy hv

theorem backU_other : ∀ {ow : List (Option Nat)} {outs : List (Option (List Cell))} {h : Nat → Option Node} {x : Nat}, some x ∉ ow → ups h (backU ow outs) x = h x
  | [], _, _, _, _ => by simp [backU, ups]
  | some id :: os, [], h, x, hx => by
    have : x ≠ id := fun e => hx (by simp [e])
    show ups (upd h id none) (backU os []) x = h x
    rw [backU_other (fun hc => hx (by simp [hc])), upd_other _ _ this]
  | some id :: os, o :: outs, h, x, hx => by
    have : x ≠ id := fun e => hx (by simp [e])
    show ups (upd h id _) (backU os outs) x = h x
    rw [backU_other (fun hc => hx (by simp [hc])), upd_other _ _ this]
  | none :: os, [], h, x, hx => by
    show ups h (backU os []) x = h x
    exact backU_other (fun hc => hx (by simp [hc]))
  | none :: os, o :: outs, h, x, hx => by
    show ups h (backU os outs) x = h x
    exact backU_other (fun hc => hx (by simp [hc]))

theorem not_mem_of_nodup {id : Nat} {os : List (Option Nat)} (h : ((some id :: os).filterMap (fun x => x)).Nodup) : some id ∉ os := by
  intro hc
  simp only [List.filterMap_cons] at h
  exact (List.nodup_cons.1 h).1 (List.mem_filterMap.2 ⟨some id, hc, rfl⟩)

theorem nodup_tail {o : Option Nat} {os : List (Option Nat)} (h : ((o :: os).filterMap (fun x => x)).Nodup) : (os.filterMap (fun x => x)).Nodup := by
  cases o with
  | none => simpa using h
  | some a => simp only [List.filterMap_cons] at h; exact (List.nodup_cons.1 h).2

theorem backU_at : ∀ {ow : List (Option Nat)} {outs : List (Option (List Cell))} {h : Nat → Option Node} {x j : Nat}, (ow.filterMap (fun x => x)).Nodup → ow[j]? = some (some x) → ups h (backU ow outs) x = (outs[j]?).join.map fun c => (true, c)
  | [], _, _, _, _, _, h => by simp at h
  | o :: os, [], h, x, 0, hn, hj => by
    obtain rfl := Option.some.inj hj
    show ups (upd h x none) (backU os []) x = _
    rw [backU_other (not_mem_of_nodup hn), upd_same]; rfl
  | o :: os, out :: outs, h, x, 0, hn, hj => by
    obtain rfl := Option.some.inj hj
    show ups (upd h x _) (backU os outs) x = _
    rw [backU_other (not_mem_of_nodup hn), upd_same]; rfl
  | some id :: os, [], h, x, j + 1, hn, hj => by
    show ups (upd h id none) (backU os []) x = _
    rw [backU_at (nodup_tail hn) (show os[j]? = some (some x) from hj)]; simp
  | none :: os, [], h, x, j + 1, hn, hj => by
    show ups h (backU os []) x = _
    rw [backU_at (nodup_tail hn) (show os[j]? = some (some x) from hj)]; simp
  | some id :: os, out :: outs, h, x, j + 1, hn, hj => by
    show ups (upd h id _) (backU os outs) x = _
    rw [backU_at (nodup_tail hn) (show os[j]? = some (some x) from hj)]; simp
  | none :: os, out :: outs, h, x, j + 1, hn, hj => by
    show ups h (backU os outs) x = _
    rw [backU_at (nodup_tail hn) (show os[j]? = some (some x) from hj)]; simp

theorem newU_other : ∀ {cs : List (List Cell)} {nid : Nat} {h : Nat → Option Node} {x : Nat}, (x < nid ∨ nid + cs.length ≤ x) → ups h (newU nid cs) x = h x
  | [], _, _, _, _ => rfl
  | c :: cs, nid, h, x, hx => by
    show ups (upd h nid _) (newU (nid + 1) cs) x = h x
    simp at hx
    rw [newU_other (by omega), upd_other _ _ (by omega)]

theorem newU_at : ∀ {cs : List (List Cell)} {nid : Nat} {h : Nat → Option Node} {i : Nat} {c : List Cell}, cs[i]? = some c → ups h (newU nid cs) (nid + i) = some (true, c)
  | [], _, _, _, _, h => by simp at h
  | c :: cs, nid, h, 0, c', hc => by
    obtain rfl := Option.some.inj hc
    show ups (upd h nid _) (newU (nid + 1) cs) nid = _
    rw [newU_other (by omega), upd_same]
  | c :: cs, nid, h, i + 1, c', hc => by
    show ups (upd h nid _) (newU (nid + 1) cs) (nid + (i + 1)) = _
    rw [show nid + (i + 1) = nid + 1 + i by omega]
    exact newU_at (show cs[i]? = some c' from hc)

theorem ups_append (h : Nat → Option Node) (a b : Upds) : ups h (a ++ b) = ups (ups h a) b := by simp [ups]

theorem newU_ids : ∀ {cs : List (List Cell)} {nid x : Nat}, x ∈ (newU nid cs).map (·.1) ↔ nid ≤ x ∧ x < nid + cs.length
  | [], nid, x => by simp [newU] <;> omega
  | c :: cs, nid, x => by
    simp only [newU, List.map_cons, List.mem_cons, newU_ids (cs := cs), List.length_cons]; omega

theorem rvs_pure {S : Nat → Prop} {w : World} (S' : Nat → Prop) : ∀ {xs : List Value} {vals : List (Bool × List Cell)} {G : List Nat}, RVs S w xs vals G → vals.all (fun p => pureL p.2) = true → RVs S' w xs vals G
  | [], [], _, h, _ => h
  | [], _ :: _, _, h, _ => h.elim
  | _ :: _, [], _, h, _ => h.elim
  | x :: xs, (b, l) :: vs, G, h, hp => by
    obtain ⟨G1, G2, e, h1, h2⟩ := h
    simp only [List.all_cons, Bool.and_eq_true] at hp
    refine ⟨G1, G2, e, ?_, rvs_pure S' h2 hp.2⟩
    cases b with
    | false => exact rep_pure h1 hp.1 S'
    | true => obtain ⟨ws, e, h1⟩ := h1; exact ⟨ws, e, rep_pure h1 hp.1 S'⟩

theorem rvs_sub {S S' : Nat → Prop} {w : World} (hS : ∀ b, S b → S' b) : ∀ {xs : List Value} {vals : List (Bool × List Cell)} {G : List Nat}, RVs S w xs vals G → RVs S' w xs vals G
  | [], [], _, h => h
  | [], _ :: _, _, h => h.elim
  | _ :: _, [], _, h => h.elim
  | x :: xs, (b, l) :: vs, G, h => by
    obtain ⟨G1, G2, e, h1, h2⟩ := h
    refine ⟨G1, G2, e, ?_, rvs_sub hS h2⟩
    cases b with
    | false => exact rep_sub h1 hS
    | true => obtain ⟨ws, e, h1⟩ := h1; exact ⟨ws, e, rep_sub h1 hS⟩

end Go.Proofs.Ytacfohamlkbpjaa
