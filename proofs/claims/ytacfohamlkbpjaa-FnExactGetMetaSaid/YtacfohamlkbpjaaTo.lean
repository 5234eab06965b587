/- One operation of a region, wherever it comes to stand in the order. -/
import Derived.Test.YtacfohamlkbpjaaTn
namespace Go.Proofs.Ytacfohamlkbpjaa
open Go Go.RowKit

/-- Operation `i` may be done in whatever state agrees with `σ` in what it looks at. -/
def OpOK (P : Program) (nid : Nat) (ops : Array Oper) (i : Nat) (σ : St) (r : TV) (l : Upds) : Prop :=
  ∀ (k : Base) (n : Nat) (L0 : Nat → Nat × Nat) (bd : Nat → Prop) (τ : St) (a : Act) (w : World) (Q : Exit → Act → World → Prop) (K : Act → World → Prop),
    RSb k n L0 bd τ a w →
    (∀ o, ops[i]? = some o → (∀ t ∈ tmpsR ops o, τ.tv t = σ.tv t) ∧ ∀ id ∈ nodesR σ o, τ.nd id = σ.nd id) →
    (∀ j, j < 16 → τ.nd (nid + j) = none ∧ ¬ bd (nid + j)) →
    (∀ a' w', RSb k n L0 (fun x => bd x ∨ x ∈ l.map (·.1)) (τ.app ((ops[i]?).bind (·.dst)) r l) a' w' → K a' w') →
    wpOp P ops Q i K a w

theorem guardT_congr {ops : Array Oper} {t t' : List TV} {o : Oper} (h : ∀ i ∈ tmpsR ops o, t'.getD i .undef = t.getD i .undef) : guardT ops t' o = guardT ops t o := by
  unfold guardT
  split
  · rfl
  · rename_i j want e
    split
    · rename_i d hd
      rw [h d (by simp [tmpsR, e, hd])]
    · rfl

theorem ev_congr {ops : Array Oper} {t t' : List TV} {o : Oper} (h : ∀ i ∈ tmpsR ops o, t'.getD i .undef = t.getD i .undef) : ∀ x ∈ o.op.operands, evT t' x = evT t x := fun x hx =>
  evT_congr fun i e => h i (by simp [tmpsR]; left; exact ⟨x, hx, by subst e; rfl⟩)

theorem app_rsb {k : Base} {n : Nat} {L0 : Nat → Nat × Nat} {bd' : Nat → Prop} {τ : St} {a : Act} {w w' : World} {L F U L' F' U'} {d : Option Nat} {v : Value} {r : TV} {l : Upds}
    (hlen : τ.t.length ≤ a.tmps.size) (hd : a.defers = []) (ht : ∀ i, RTV (SS k τ.nd L F w) U L w (a.tmps.getD i undef) (τ.tv i)) (hn : ∀ i, i < n → U i ∧ L i = L0 i)
    (m' : Mem k (ups τ.nd l) w' L' F' U') (mo : Mono k τ.nd w L F U (ups τ.nd l) w' L' F' U') (hv : RTV (SS k (ups τ.nd l) L' F' w') U' L' w' v r) (hU : ∀ i, U' i → bd' i) :
    RSb k n L0 bd' (τ.app d r l) (a.put d v) w' := by
  obtain ⟨p1, p2, p3⟩ := put_rtv (d := d) (r := r) (l := l) hlen (fun i => mo.rtv (ht i)) hv
  refine ⟨⟨L', F', U', by rw [nd_app]; exact m', fun i => by rw [nd_app]; exact p1 i, hU, fun i hi => ?_⟩, p2, p3.trans hd⟩
  obtain ⟨h1, h2⟩ := hn i hi
  obtain ⟨h3, h4⟩ := mo.2.1 i h1
  exact ⟨h3, h4.trans h2⟩

theorem opSkip_ok {P : Program} {nid : Nat} {ops : Array Oper} {i : Nat} {σ : St} {o : Oper} (ho : ops[i]? = some o) (hg : guardT ops σ.t o = some false) : OpOK P nid ops i σ (.tup []) [] := by
  intro k n L0 bd τ a w Q K hrs hag _ hK
  obtain ⟨h1, _⟩ := hag o ho
  obtain ⟨⟨L, F, U, m, ht, hU, hn⟩, hlen, hd⟩ := hrs
  have hg' := guard_wanted ht ((guardT_congr (t := σ.t) (t' := τ.t) h1).trans hg)
  simp only [wpOp, ho, hg', Bool.false_eq_true, if_false]
  refine hK _ _ ?_
  rw [ho]
  exact app_rsb hlen hd ht hn m (Mono.refl _ _ _ _ _ _) ⟨#[], rfl, rfl, fun i y c h1 _ => by simp at h1⟩ (fun i hi => .inl (hU i hi))

theorem opEff_ok {P : Program} {nid : Nat} {ops : Array Oper} {i : Nat} {σ : St} {o : Oper} {r : TV} {l : Upds} (ho : ops[i]? = some o) (hg : guardT ops σ.t o = some true)
    (he : eff P σ.nd nid (evT σ.t) o.op = some (r, l)) : OpOK P nid ops i σ r l := by
  intro k n L0 bd τ a w Q K hrs hag hfr hK
  obtain ⟨h1, h2⟩ := hag o ho
  obtain ⟨⟨L, F, U, m, ht, hU, hn⟩, hlen, hd⟩ := hrs
  have hg' := guard_wanted ht ((guardT_congr (t := σ.t) (t' := τ.t) h1).trans hg)
  have hev := ev_congr (t := σ.t) (t' := τ.t) h1
  have he' : eff P τ.nd nid (evT τ.t) o.op = some (r, l) := by
    rw [eff_local (h := τ.nd) (h' := σ.nd) hev (fun x hx j hj => ?_)]
    · exact he
    · rw [hev x hx] at hj
      exact h2 j (by simp [nodesR]; exact ⟨x, hx, hj⟩)
  obtain ⟨hn0, hb0⟩ := hfr 0 (by omega)
  obtain ⟨nx, w', L', F', U', e1, e2, m', mo, hU'⟩ := eff_sound m hn0 (fun h => hb0 (hU _ h)) (fun x => evT_rtv ht x) o he'
  simp only [wpOp, ho, hg', if_true]
  left
  unfold Oper.wp
  rw [e1]
  have hUU : ∀ i, U' i → bd i ∨ i ∈ l.map (·.1) := fun i hi => (hU' i hi).imp (hU i) id
  rcases e2 with ⟨v, rfl, hv⟩ | ⟨rfl, rfl⟩
  · simp only [Oper.upon]
    refine hK _ _ ?_
    rw [ho]
    exact app_rsb hlen hd ht hn m' mo hv hUU
  · simp only [Oper.upon]
    refine hK _ _ ?_
    rw [ho]
    exact app_rsb hlen hd ht hn m' mo trivial hUU

end Go.Proofs.Ytacfohamlkbpjaa
