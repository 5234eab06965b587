/- What the law comes to: functions of the program, each with what it gives back, and the plain facts behind them. -/
import Derived.Test.YtddikflnjloagaaGreatDoorPb
namespace Go.Proofs.YtddikflnjloagaaGreatDoor

section
open Go Go.RowKit

/-- Operation `i` may be done in whatever state agrees with `σ` in what it looks at. -/
def OpOK (P : Program) (nid : Nat) (ops : Array Oper) (i : Nat) (σ : St) (r : TV) (l : Upds) : Prop :=
  ∀ (k : Base) (n : Nat) (L0 : Nat → Nat × Nat) (bd : Nat → Prop) (τ : St) (a : Act) (w : World) (Q : Exit → Act → World → Prop) (K : Act → World → Prop),
    RSb k n L0 bd τ a w →
    (∀ o, ops[i]? = some o → (∀ t ∈ tmpsR ops o, τ.tv t = σ.tv t) ∧ ∀ id ∈ nodesR σ o, τ.nd id = σ.nd id) →
    (∀ j, j < 16 → τ.nd (nid + j) = none ∧ ¬ bd (nid + j)) →
    (∀ a' w', RSb k n L0 (fun x => bd x ∨ x ∈ l.map (·.1)) (τ.app ((ops[i]?).bind (·.dst)) r l) a' w' → K a' w') →
    wpOp P ops Q i K a w

theorem guardT_congr {ops : Array Oper} {t t' : List TV} {o : Oper} (h : ∀ i ∈ tmpsR ops o, t'.getD i .undef = t.getD i .undef) : guardT ops t' o = guardT ops t o := by
  unfold guardT
  split
  · rfl
  · rename_i j want e
    split
    · rename_i d hd
      rw [h d (by simp [tmpsR, e, hd])]
    · rfl

theorem ev_congr {ops : Array Oper} {t t' : List TV} {o : Oper} (h : ∀ i ∈ tmpsR ops o, t'.getD i .undef = t.getD i .undef) : ∀ x ∈ o.op.operands, evT t' x = evT t x := fun x hx =>
  evT_congr fun i e => h i (by simp [tmpsR]; left; exact ⟨x, hx, by subst e; rfl⟩)

theorem app_rsb {k : Base} {n : Nat} {L0 : Nat → Nat × Nat} {bd' : Nat → Prop} {τ : St} {a : Act} {w w' : World} {L F U L' F' U'} {d : Option Nat} {v : Value} {r : TV} {l : Upds}
    (hlen : τ.t.length ≤ a.tmps.size) (hd : a.defers = []) (ht : ∀ i, RTV (SS k τ.nd L F w) U L w (a.tmps.getD i undef) (τ.tv i)) (hn : ∀ i, i < n → U i ∧ L i = L0 i)
    (m' : Mem k (ups τ.nd l) w' L' F' U') (mo : Mono k τ.nd w L F U (ups τ.nd l) w' L' F' U') (hv : RTV (SS k (ups τ.nd l) L' F' w') U' L' w' v r) (hU : ∀ i, U' i → bd' i) :
    RSb k n L0 bd' (τ.app d r l) (a.put d v) w' := by
  obtain ⟨p1, p2, p3⟩ := put_rtv (d := d) (r := r) (l := l) hlen (fun i => mo.rtv (ht i)) hv
  refine ⟨⟨L', F', U', by rw [nd_app]; exact m', fun i => by rw [nd_app]; exact p1 i, hU, fun i hi => ?_⟩, p2, p3.trans hd⟩
  obtain ⟨h1, h2⟩ := hn i hi
  obtain ⟨h3, h4⟩ := mo.2.1 i h1
  exact ⟨h3, h4.trans h2⟩

theorem opSkip_ok {P : Program} {nid : Nat} {ops : Array Oper} {i : Nat} {σ : St} {o : Oper} (ho : ops[i]? = some o) (hg : guardT ops σ.t o = some false) : OpOK P nid ops i σ (.tup []) [] := by
  intro k n L0 bd τ a w Q K hrs hag _ hK
  obtain ⟨h1, _⟩ := hag o ho
  obtain ⟨⟨L, F, U, m, ht, hU, hn⟩, hlen, hd⟩ := hrs
  have hg' := guard_wanted ht ((guardT_congr (t := σ.t) (t' := τ.t) h1).trans hg)
  simp only [wpOp, ho, hg', Bool.false_eq_true, if_false]
  refine hK _ _ ?_
  rw [ho]
  exact app_rsb hlen hd ht hn m (Mono.refl _ _ _ _ _ _) ⟨#[], rfl, rfl, fun i y c h1 _ => by simp at h1⟩ (fun i hi => .inl (hU i hi))

theorem opEff_ok {P : Program} {nid : Nat} {ops : Array Oper} {i : Nat} {σ : St} {o : Oper} {r : TV} {l : Upds} (ho : ops[i]? = some o) (hg : guardT ops σ.t o = some true)
    (he : eff P σ.nd nid (evT σ.t) o.op = some (r, l)) : OpOK P nid ops i σ r l := by
  intro k n L0 bd τ a w Q K hrs hag hfr hK
  obtain ⟨h1, h2⟩ := hag o ho
  obtain ⟨⟨L, F, U, m, ht, hU, hn⟩, hlen, hd⟩ := hrs
  have hg' := guard_wanted ht ((guardT_congr (t := σ.t) (t' := τ.t) h1).trans hg)
  have hev := ev_congr (t := σ.t) (t' := τ.t) h1
  have he' : eff P τ.nd nid (evT τ.t) o.op = some (r, l) := by
    by_cases hm : ∃ y, o.op = .move y
    · obtain ⟨y, hy⟩ := hm
      have e1 := hev y (by rw [hy]; simp [Op.operands])
      rw [hy] at he ⊢
      simp only [eff] at he ⊢
      rw [e1]; exact he
    · have ho2 : opN o.op = o.op.operands.toList := by
        unfold opN
        split
        · rename_i y hy; exact absurd ⟨y, hy⟩ hm
        · rfl
      rw [eff_local (h := τ.nd) (h' := σ.nd) hev (fun x hx j hj => ?_)]
      · exact he
      · rw [hev x hx] at hj
        exact h2 j (by simp only [nodesR, ho2, List.mem_flatMap]; exact ⟨x, by simpa using hx, hj⟩)
  obtain ⟨hn0, hb0⟩ := hfr 0 (by omega)
  obtain ⟨nx, w', L', F', U', e1, e2, m', mo, hU'⟩ := eff_sound m hn0 (fun h => hb0 (hU _ h)) (fun x => evT_rtv ht x) o he'
  simp only [wpOp, ho, hg', if_true]
  left
  unfold Oper.wp
  rw [e1]
  have hUU : ∀ i, U' i → bd i ∨ i ∈ l.map (·.1) := fun i hi => (hU' i hi).imp (hU i) id
  rcases e2 with ⟨v, rfl, hv⟩ | ⟨rfl, rfl⟩
  · simp only [Oper.upon]
    refine hK _ _ ?_
    rw [ho]
    exact app_rsb hlen hd ht hn m' mo hv hUU
  · simp only [Oper.upon]
    refine hK _ _ ?_
    rw [ho]
    exact app_rsb hlen hd ht hn m' mo trivial hUU
end

section
open Go Go.RowKit

abbrev noU : Nat → Prop := fun _ => False

abbrev noL : Nat → Nat × Nat := fun _ => (0, 0)

/-- How a result stands for its cells; `G`: the blocks that it brings. -/
def RVo (S : Nat → Prop) (w : World) (x : Value) : Bool × List Cell → List Nat → Prop
  | (false, l), G => Rep S noU noL w [x] l G
  | (true, l), G => ∃ vs : Array Value, x = .agg vs ∧ Rep S noU noL w vs.toList l G

def RVs (S : Nat → Prop) (w : World) : List Value → List (Bool × List Cell) → List Nat → Prop
  | [], [], G => G = []
  | x :: xs, v :: vs, G => ∃ G1 G2, G = G1 ++ G2 ∧ RVo S w x v G1 ∧ RVs S w xs vs G2
  | _, _, _ => False

def packV (xs : List Value) : Value := if h : xs.length = 1 then xs[0] else .tuple xs.toArray

/-- The blocks of what comes back, by the place of the argument. -/
def OutOwn (L0 : Nat → Nat × Nat) (Fo : Nat → List Nat) (outs : List (Option (List Cell))) (j : Nat) : List Nat :=
  match outs[j]? with
  | some (some c) => OB (L0 j).1 (Fo j) c
  | _ => []

def FinS (k : Base) (L0 : Nat → Nat × Nat) (outs : List (Option (List Cell))) (G : List Nat) (Fo : Nat → List Nat) (w' : World) (b : Nat) : Prop :=
  (k.S0 b ∨ b ∈ k.B0 ∨ k.w0.heap.size ≤ b) ∧ b < w'.heap.size ∧ b ∉ G ∧ ∀ j, b ∉ OutOwn L0 Fo outs j

structure FinOK (k : Base) (L0 : Nat → Nat × Nat) (vals : List (Bool × List Cell)) (outs : List (Option (List Cell))) (xs : List Value) (G : List Nat) (Fo : Nat → List Nat) (w' : World) : Prop where
  res : RVs (FinS k L0 outs G Fo w') w' xs vals G
  back : ∀ j cs, outs[j]? = some (some cs) → ∃ us, w'.rangeAt (L0 j).1 (L0 j).2 us ∧ Rep (FinS k L0 outs G Fo w') noU noL w' us cs (Fo j) ∧ (cs ≠ [] → Wr w' (L0 j).1 ((L0 j).2 + us.length)) ∧ closedL cs = true
  nodup : G.Nodup
  nodupO : ∀ j, (OutOwn L0 Fo outs j).Nodup
  disjG : ∀ j, ∀ b ∈ OutOwn L0 Fo outs j, b ∉ G
  disj : ∀ i j, i ≠ j → ∀ b ∈ OutOwn L0 Fo outs i, b ∉ OutOwn L0 Fo outs j
  inG : ∀ b ∈ G, k.w0.heap.size ≤ b ∨ b ∈ k.B0
  inO : ∀ j, ∀ b ∈ OutOwn L0 Fo outs j, k.w0.heap.size ≤ b ∨ b ∈ k.B0
  frame : ∀ b, b < k.w0.heap.size → b ∉ k.B0 → w'.heap[b]? = k.w0.heap[b]?
  os : w'.os = k.w0.os
  tape : w'.tape = k.w0.tape
  output : w'.output = k.w0.output
  grows : Grows k.w0 w'

def Fin (k : Base) (L0 : Nat → Nat × Nat) (vals : List (Bool × List Cell)) (outs : List (Option (List Cell))) (v : Value) (w' : World) : Prop :=
  ∃ xs G Fo, v = packV xs ∧ FinOK k L0 vals outs xs G Fo w'

def CallOK (P : Program) (f : FuncId) (as : List Arg) (vals : List (Bool × List Cell)) (outs : List (Option (List Cell))) : Prop :=
  ∀ (k : Base) (L0 : Nat → Nat × Nat) (F0 : Nat → List Nat) (vs : Array Value), vs.size ≤ as.length ∧ (noEx as = true → vs.size = as.length) → Mem k (ndOf (as.map Arg.node)) k.w0 L0 F0 (· < as.length) →
    (∀ i, RTV (SS k (ndOf (as.map Arg.node)) L0 F0 k.w0) (· < as.length) L0 k.w0 (vs.getD i undef) ((argTVs 0 as).getD i .undef)) →
    Calls P f vs k.w0 fun e w' => ∃ v, e = .returned v ∧ Fin k L0 vals outs v w'

section

variable {k : Base} {h : Nat → Option Node} {w : World} {L : Nat → Nat × Nat} {F : Nat → List Nat} {U : Nat → Prop} {P : Program}

theorem rep_sub {S U L w} {vs : List Value} {cs : List Cell} {G : List Nat} (r : Rep S U L w vs cs G) {S' : Nat → Prop} (hS : ∀ b, S b → S' b) : Rep S' U L w vs cs G :=
  r.carry (fun b hb => ⟨hS b hb, rfl⟩) (fun _ hi => ⟨hi, rfl⟩) (fun _ _ => rfl) (Grows.refl _)

theorem own0_only {S U L w} {x : Value} {s : Nat} {G : List Nat} (hr : Rep S U L w [x] [.sl true 0 s []] G) {Q : Value → Prop} (h : ∀ p, zp p → Q (.slice p 0 0)) : Q x := by
  cases hr with
  | own _ _ _ _ _ hz _ _ => exact absurd rfl hz
  | own0 hp _ => exact h _ hp

/-- A cell of a result, drawn out of its node. -/
theorem exC_rep (m : Mem k h w L F U) {x : Value} {c c' : Cell} {used : List Nat} {S' : Nat → Prop} (hS : ∀ b, SS k h L F w b → S' b) (hr : Rep (SS k h L F w) U L w [x] [c] []) (he : exC h c = some (c', used)) :
    Rep S' noU noL w [x] [c'] (used.flatMap (Own h L F)) := by
  unfold exC at he
  split at he
  · obtain ⟨rfl, rfl⟩ := Prod.mk.inj (Option.some.inj he)
    exact (rep_sub hr hS).free (by simp [closedL, Cell.closed])
  · obtain ⟨rfl, rfl⟩ := Prod.mk.inj (Option.some.inj he)
    exact (rep_sub hr hS).free (by simp [closedL, Cell.closed])
  · obtain ⟨rfl, rfl⟩ := Prod.mk.inj (Option.some.inj he)
    cases hr with
    | ro0 h1 hn => cases hn; exact .ro0 h1 .nil
    | ro h1 h2 h3 h4 hc h5 hn => cases hn; exact .ro (fun hl => hS _ (h1 hl)) h2 h3 h4 hc ((rep_sub h5 hS).free hc) .nil
  · obtain ⟨rfl, rfl⟩ := Prod.mk.inj (Option.some.inj he)
    rename_i s; exact own0_only hr (Q := fun x => Rep S' noU noL w [x] [.sl true 0 s []] (List.flatMap (Own h L F) [])) (fun p hp => .own0 hp .nil)
  · rename_i id off n s
    split at he
    · rename_i cs hid
      split at he
      · rename_i hc
        obtain ⟨rfl, rfl⟩ := Prod.mk.inj (Option.some.inj he)
        obtain ⟨rfl, hl, hsz, hs⟩ := hc
        obtain ⟨_, us, g1, g2, g3, _⟩ := m.node id _ hid
        simp only at g2
        have hcl := g2.closed hs
        cases hr with
        | ref0 hU hp hnil =>
          cases hnil
          obtain rfl : cs = [] := by simpa using hl
          have := @Rep.own0 S' noU noL w _ s [] [] [] hp .nil
          simpa [own_of hid, OB] using this
        | ref hU hW hn hz hnil =>
          cases hnil
          have hne : cs ≠ [] := fun e => by
            rw [e] at hl
            rcases Nat.mul_eq_zero.1 (show n * s = 0 from hl.symm) with q | q
            · exact hz q
            · exact hsz q
          have := @Rep.own S' noU noL w (L id).1 ((L id).2 + 0) n _ s cs us (F id) [] [] [] (by simpa using hW) hl hn (by simpa using g1) hcl hne ((rep_sub g2 hS).free hcl) .nil
          simpa [own_ne hid hne] using this
      · cases he
    · rename_i cs hid
      split at he
      · rename_i hc
        obtain ⟨rfl, rfl⟩ := Prod.mk.inj (Option.some.inj he)
        obtain ⟨_, us, g1, g2, g3, g4⟩ := m.node id _ hid
        obtain ⟨g5, g6⟩ := g4 rfl
        simp only at g2
        rw [g5] at g2
        have hl := g2.length
        have hsub := rep_take (n * s) (rep_drop off g2)
        have hcl := hsub.closed hc.2
        cases hr with
        | ref0 hU hp hnil =>
          cases hnil
          simpa using @ro_zero S' noU noL w _ s [] [] [] hp .nil
        | ref hU hW hn hz hnil =>
          cases hnil
          exact .ro (us := (us.drop off).take (n * s)) (fun hne => hS _ (g6 (fun e => hne (by simp only at e; rw [e]; simp)))) (by simp; omega) hn (rangeAt_take (rangeAt_drop g1 off) _) hcl ((rep_sub hsub hS).free hcl) .nil
      · cases he
    · cases he
  · rename_i id off
    split at he
    · rename_i cs hid
      split at he
      · rename_i hc
        obtain ⟨rfl, rfl⟩ := Prod.mk.inj (Option.some.inj he)
        obtain ⟨rfl, hne, hs⟩ := hc
        have hne : cs ≠ [] := fun e => by rw [e] at hne; cases hne
        obtain ⟨_, us, g1, g2, g3, _⟩ := m.node id _ hid
        simp only at g2 g3
        have hcl := g2.closed hs
        cases hr with
        | ptr hU hnil =>
          cases hnil
          have := @Rep.ownp S' noU noL w (L id).1 ((L id).2 + 0) cs us (F id) [] [] [] (by have := g2.length; have := g3 hne; rw [Nat.add_zero, ← g2.length]; exact this) (by simpa using g1) hcl hne ((rep_sub g2 hS).free hcl) .nil
          simpa [own_ne hid hne] using this
      · cases he
    · cases he
  · cases he

theorem rep_cons {S U L w} {v : Value} {vs : List Value} {c : Cell} {cs : List Cell} {G : List Nat} (r : Rep S U L w (v :: vs) (c :: cs) G) : ∃ G1 G2, G = G1 ++ G2 ∧ Rep S U L w [v] [c] G1 ∧ Rep S U L w vs cs G2 := by
  obtain ⟨v1, v2, G1, G2, e1, e2, r1, r2⟩ := Rep.split (cs1 := [c]) (cs2 := cs) r
  have hl := r1.length
  match v1, hl with
  | [a], _ =>
    obtain ⟨rfl, rfl⟩ := List.cons.inj e1
    exact ⟨G1, G2, e2, r1, r2⟩

theorem exL_rep (m : Mem k h w L F U) {S' : Nat → Prop} (hS : ∀ b, SS k h L F w b → S' b) : ∀ {zs : List Nat} {cs cs' : List Cell} {xs : List Value} {used : List Nat}, Rep (SS k h L F w) U L w xs cs [] → exL h zs cs = some (cs', used) →
    Rep S' noU noL w xs cs' (used.flatMap (Own h L F))
  | zs, [], cs', xs, used, hr, he => by
    have he : some (([] : List Cell), ([] : List Nat)) = some (cs', used) := by cases zs <;> exact he
    obtain ⟨rfl, rfl⟩ := Prod.mk.inj (Option.some.inj he)
    have := hr.length
    obtain rfl : xs = [] := by simpa using this
    exact .nil
  | zs, c :: cs, cs', xs, used, hr, he => by
    match xs, hr with
    | [], hr => have := hr.length; simp at this
    | x :: xs, hr =>
      obtain ⟨G1, G2, e, r1, r2⟩ := rep_cons hr
      obtain ⟨rfl, rfl⟩ := List.append_eq_nil_iff.1 e.symm
      unfold exL at he
      split at he
      · rename_i e3; cases e3
      · rename_i s zs' cs0 e3
        obtain ⟨rfl, rfl⟩ := List.cons.inj e3
        split at he
        · rename_i cs'' j e2
          obtain ⟨rfl, rfl⟩ := Prod.mk.inj (Option.some.inj he)
          obtain rfl := rep_nilc r1
          exact .own0 (.inl rfl) (exL_rep m hS r2 e2)
        · cases he
      · rename_i c0 cs0 _ e3
        obtain ⟨rfl, rfl⟩ := List.cons.inj e3
        split at he
        · rename_i c' i cs'' j e1 e2
          obtain ⟨rfl, rfl⟩ := Prod.mk.inj (Option.some.inj he)
          have h1 := exC_rep m hS r1 e1
          have h2 := exL_rep m hS r2 e2
          have := h1.append h2
          simpa using this
        · cases he

theorem exV_rep (m : Mem k h w L F U) {S' : Nat → Prop} (hS : ∀ b, SS k h L F w b → S' b) : ∀ {zs : List (List Nat)} {vs vs' : List (Bool × List Cell)} {xs : List Value} {used : List Nat},
    xs.length = vs.length → (∀ (i : Nat) x v, xs[i]? = some x → vs[i]? = some v → RV (SS k h L F w) U L w x v) → exV h zs vs = some (vs', used) → RVs S' w xs vs' (used.flatMap (Own h L F))
  | zs, [], vs', xs, used, hl, hr, he => by
    obtain ⟨rfl, rfl⟩ := Prod.mk.inj (Option.some.inj he)
    obtain rfl : xs = [] := by simpa using hl
    rfl
  | zs, (b, l) :: vs, vs', xs, used, hl, hr, he => by
    unfold exV at he
    split at he
    · rename_i l' i vs'' j e1 e2
      obtain ⟨rfl, rfl⟩ := Prod.mk.inj (Option.some.inj he)
      match xs, hl with
      | x :: xs, hl =>
        have h0 := hr 0 x (b, l) rfl rfl
        refine ⟨i.flatMap (Own h L F), j.flatMap (Own h L F), by simp, ?_, exV_rep m hS (by simpa using hl) (fun i x v h1 h2 => hr (i + 1) x v h1 h2) e2⟩
        cases b with
        | false => exact exL_rep m hS h0 e1
        | true => obtain ⟨ws, rfl, h0⟩ := h0; exact ⟨ws, rfl, exL_rep m hS h0 e1⟩
    · cases he

/-- One result variable, read. -/
def resSem (tmps : Array Value) : ResultVar → Sem Value
  | .tmp t => pure (tmps.getD t undef)
  | .cell c t => do loadVar t (← asAddr (tmps.getD c undef))

theorem results_eq (fn : Func) (tmps : Array Value) : results fn tmps = (fn.results.mapM (resSem tmps) >>= fun vs => pure (if h : vs.size = 1 then vs[0] else .tuple vs)) := by
  unfold results
  congr 1

theorem resVar_run (m : Mem k h w L F U) {σ : St} {a : Act} (hσ : σ.nd = h) (ht : ∀ i, RTV (SS k h L F w) U L w (a.tmps.getD i undef) (σ.tv i)) {r : ResultVar} {v : Bool × List Cell} (he : resVarT P σ r = some v) :
    ∃ x, (resSem a.tmps r).run P w = .ok x w ∧ RV (SS k h L F w) U L w x v := by
  unfold resVarT at he
  split at he
  · rename_i t
    split at he
    · rename_i b l e
      obtain rfl := Option.some.inj he
      have := ht t
      rw [e] at this
      exact ⟨_, rfl, this⟩
    · cases he
  · rename_i c ty
    split at he
    · rename_i id off s r e hs hrw
      split at he
      · rename_i o cs hid
        split at he
        · rename_i hc
          obtain rfl := Option.some.inj he
          have hx := ht c
          rw [e] at hx
          rw [hσ] at hid
          obtain ⟨_, us, h1, h2, h3, _⟩ := m.node id _ hid
          simp only at h2
          have hl := h2.length
          show ∃ x, ((do loadVar ty (← asAddr (a.tmps.getD c undef)) : Sem Value).run P w = .ok x w) ∧ _
          generalize a.tmps.getD c undef = q at hx ⊢
          cases hx with
          | ptr hU hn =>
            cases hn
            obtain ⟨y, hy, e1, e2⟩ := run_load_t (P := P) (us := (us.drop off).take s) hs hrw hc.1 (by simp; omega) (rangeAt_take (rangeAt_drop h1 off) s)
            refine ⟨y, ?_, rv_load (rep_mid off s h2 hc.2.2) e1 e2⟩
            simpa [Instr.loadAt, Instr.sureAddr, asAddr] using hy
        · cases he
      · cases he
    · cases he

theorem resVars_run (m : Mem k h w L F U) {σ : St} {a : Act} (hσ : σ.nd = h) (ht : ∀ i, RTV (SS k h L F w) U L w (a.tmps.getD i undef) (σ.tv i)) : ∀ {rs : List ResultVar} {rv : List (Bool × List Cell)}, resVarsT P σ rs = some rv →
    ∃ xs, (rs.mapM (resSem a.tmps)).run P w = .ok xs w ∧
      xs.length = rv.length ∧ ∀ (i : Nat) x v, xs[i]? = some x → rv[i]? = some v → RV (SS k h L F w) U L w x v
  | [], rv, he => by
    obtain rfl := Option.some.inj he
    exact ⟨[], rfl, rfl, fun i x v h1 _ => by simp at h1⟩
  | r :: rs, rv, he => by
    unfold resVarsT at he
    split at he
    · rename_i v vs e1 e2
      obtain rfl := Option.some.inj he
      obtain ⟨x, h1, h2⟩ := resVar_run m hσ ht e1
      obtain ⟨xs, h3, h4, h5⟩ := resVars_run m hσ ht e2
      refine ⟨x :: xs, ?_, by simp [h4], fun i y z hy hz => ?_⟩
      · rw [List.mapM_cons]
        simp only [Sem.run_bind, h1, Result.andThen_ok, h3, Sem.run_pure]
      · cases i with
        | zero => obtain rfl := Option.some.inj hy; obtain rfl := Option.some.inj hz; exact h2
        | succ i => exact h5 i y z hy hz
    · cases he

theorem outsT_get {used : List Nat} : ∀ {as : List Arg} {j0 j : Nat} {cs : List Cell}, (outsT h used j0 as)[j]? = some (some cs) → ∃ a, as[j]? = some a ∧ outT h used (j0 + j) a = some cs
  | [], _, _, _, he => by simp [outsT] at he
  | a :: as, j0, 0, cs, he => ⟨a, rfl, by simpa [outsT] using he⟩
  | a :: as, j0, j + 1, cs, he => by
    obtain ⟨b, h1, h2⟩ := outsT_get (as := as) (j0 := j0 + 1) (j := j) (by simpa [outsT] using he)
    exact ⟨b, h1, by rw [show j0 + (j + 1) = j0 + 1 + j by omega]; exact h2⟩

theorem outT_some {used : List Nat} {j : Nat} {a : Arg} {cs : List Cell} (he : outT h used j a = some cs) : j ∉ used ∧ h j = some (true, cs) ∧ cs.all Cell.shal = true := by
  unfold outT at he
  split at he
  · cases he
  · split at he
    · cases he
    · rename_i hu
      split at he
      · rename_i cs' hj
        split at he
        · rename_i hs
          obtain rfl := Option.some.inj he
          exact ⟨by simpa using hu, hj, hs⟩
        · cases he
      · cases he

/-- THE END. -/
theorem fin_ok {n : Nat} {L0 : Nat → Nat × Nat} {fn : Func} {σ : St} {a : Act} {as : List Arg} {vals : List (Bool × List Cell)} {outs : List (Option (List Cell))} (hrs : RS k n L0 σ a w) (hn : as.length = n) {zs : List (List Nat)} (he : finT P fn zs σ as = some (vals, outs)) :
    ∃ v, (results fn a.tmps).run P w = .ok v w ∧ Fin k L0 vals outs v w := by
  obtain ⟨⟨L, F, U, m, ht, hU, hnn⟩, hlen, hd⟩ := hrs
  unfold finT at he
  split at he
  · rename_i rv hrv
    split at he
    · rename_i vs used hex
      split at he
      · rename_i hnd
        obtain ⟨rfl, rfl⟩ := Prod.mk.inj (Option.some.inj he)
        obtain ⟨xs, h1, h2, h3⟩ := resVars_run (P := P) m rfl ht hrv
        have hO : ∀ j cs, (outsT σ.nd used 0 as)[j]? = some (some cs) → j < n ∧ j ∉ used ∧ σ.nd j = some (true, cs) ∧ cs.all Cell.shal = true := fun j cs hj => by
          obtain ⟨b, g1, g2⟩ := outsT_get hj
          rw [Nat.zero_add] at g2
          exact ⟨by rw [← hn]; exact (List.getElem?_eq_some_iff.1 g1).1, outT_some g2⟩
        have hOO : ∀ j, OutOwn L0 F (outsT σ.nd used 0 as) j = [] ∨ (j < n ∧ j ∉ used ∧ OutOwn L0 F (outsT σ.nd used 0 as) j = Own σ.nd L F j) := fun j => by
          unfold OutOwn
          split
          · rename_i cs hj
            obtain ⟨g1, g2, g3, _⟩ := hO j cs hj
            exact .inr ⟨g1, g2, by rw [own_of g3, (hnn j g1).2]⟩
          · exact .inl rfl
        have hG : ∀ b, b ∈ used.flatMap (Own σ.nd L F) → ∃ i ∈ used, b ∈ Own σ.nd L F i := fun b hb => by simpa using hb
        have hS : ∀ b, SS k σ.nd L F w b → FinS k L0 (outsT σ.nd used 0 as) (used.flatMap (Own σ.nd L F)) F w b := fun b hb =>
          ⟨hb.1, hb.2.1, fun hc => by obtain ⟨i, _, hi⟩ := hG b hc; exact hb.2.2 i hi, fun j hj => by
            rcases hOO j with e | ⟨_, _, e⟩
            · rw [e] at hj; cases hj
            · rw [e] at hj; exact hb.2.2 j hj⟩
        refine ⟨packV xs, ?_, xs, used.flatMap (Own σ.nd L F), F, rfl, ⟨exV_rep m hS h2 h3 hex, fun j cs hj => ?_, ?_, fun j => ?_, fun j b hb hc => ?_, fun i j hij b hb hc => ?_, fun b hb => ?_, fun j b hb => ?_, m.frame, m.os, m.tape, m.output, m.grows⟩⟩
        · rw [results_eq, Array.mapM_eq_mapM_toList]
          simp only [Sem.run_bind, Sem.run_map, h1, Result.andThen_ok, Sem.run_pure]
          unfold packV
          by_cases hx : xs.length = 1
          · have : xs.toArray.size = 1 := by simpa using hx
            rw [dif_pos hx, dif_pos this]; simp
          · have : ¬ xs.toArray.size = 1 := by simpa using hx
            rw [dif_neg hx, dif_neg this]
        · obtain ⟨g1, g2, g3, g4⟩ := hO j cs hj
          obtain ⟨_, us, q1, q2, q3, _⟩ := m.node j _ g3
          simp only at q2
          rw [← (hnn j g1).2]
          exact ⟨us, q1, (rep_sub q2 hS).free (q2.closed g4), q3, q2.closed g4⟩
        · clear hex hOO hS hO he hG
          induction used with
          | nil => simp
          | cons i used ih =>
            have hnd' := List.nodup_cons.1 hnd
            rw [List.flatMap_cons]
            refine List.nodup_append.2 ⟨m.nodup i, ih hnd'.2, fun a ha b hb e => ?_⟩
            obtain ⟨j, hj, hb'⟩ := List.mem_flatMap.1 hb
            exact m.disj i j (fun e' => hnd'.1 (e' ▸ hj)) a ha (e ▸ hb')
        · rcases hOO j with e | ⟨_, _, e⟩
          · rw [e]; simp
          · rw [e]; exact m.nodup j
        · rcases hOO j with e | ⟨_, hu, e⟩
          · rw [e] at hb; cases hb
          · rw [e] at hb
            obtain ⟨i, hi, hi'⟩ := hG b hc
            exact m.disj j i (fun e' => hu (e' ▸ hi)) b hb hi'
        · rcases hOO i with e | ⟨_, _, e⟩
          · rw [e] at hb; cases hb
          · rcases hOO j with e' | ⟨_, _, e'⟩
            · rw [e'] at hc; cases hc
            · rw [e] at hb; rw [e'] at hc; exact m.disj i j hij b hb hc
        · obtain ⟨i, _, hi⟩ := hG b hb; exact m.inB i b hi
        · rcases hOO j with e | ⟨_, _, e⟩
          · rw [e] at hb; cases hb
          · rw [e] at hb; exact m.inB j b hb
      · cases he
    · cases he
  · cases he

end
end

section
open Go Go.RowKit

section

variable {k : Base} {h : Nat → Option Node} {w : World} {L : Nat → Nat × Nat} {F : Nat → List Nat} {U : Nat → Prop} {P : Program}

theorem giveL_get : ∀ {l l' : List Cell} {k : Nat} {e : List (Nat × List Cell)}, giveL h k l = some (l', e) → ∀ q ∈ e, h q.1 = some (true, q.2) ∧ q.2.all Cell.shal = true
  | [], l', k, e, he => by
    simp only [giveL, Option.some.injEq, Prod.mk.injEq] at he
    obtain ⟨_, rfl⟩ := he
    intro q hq; cases hq
  | c :: l, l', k, e, he => by
    have one : ∀ {c'}, (match giveL h k l with | some (l', e) => some (c' :: l', e) | none => none) = some (l', e) → ∀ q ∈ e, h q.1 = some (true, q.2) ∧ q.2.all Cell.shal = true := fun {c'} hh => by
      cases e1 : giveL h k l with
      | none => rw [e1] at hh; cases hh
      | some p =>
        rw [e1] at hh
        obtain ⟨l1, e2⟩ := p
        obtain ⟨_, rfl⟩ := Prod.mk.inj (Option.some.inj hh)
        exact giveL_get e1
    cases c with
    | prim v => exact one he
    | nil => exact one he
    | sl o n s x => cases o with
      | false => exact one he
      | true => cases he
    | ref id off n s =>
      simp only [giveL] at he
      split at he
      · rename_i cs hid
        split at he
        · rename_i hc
          split at he
          · rename_i l1 e1 he1
            obtain ⟨_, rfl⟩ := Prod.mk.inj (Option.some.inj he)
            intro q hq
            rcases List.mem_cons.1 hq with rfl | hq
            · exact ⟨hid, hc.2.2⟩
            · exact giveL_get he1 q hq
          · cases he
        · cases he
      · cases he
    | _ => cases he

theorem giveL_rep {S' : Nat → Prop} {U' : Nat → Prop} {L' : Nat → Nat × Nat} (hS : ∀ b, SS k h L F w b → S' b) : ∀ {cs cs' : List Cell} {xs : List Value} {i : Nat} {e : List (Nat × List Cell)},
    Rep (SS k h L F w) U L w xs cs [] → giveL h i cs = some (cs', e) → (∀ p q, e[p]? = some q → U' (i + p) ∧ L' (i + p) = L q.1) → Rep S' U' L' w xs cs' []
  | [], cs', xs, i, e, hr, he, _ => by
    simp only [giveL, Option.some.injEq, Prod.mk.injEq] at he
    obtain ⟨rfl, _⟩ := he
    have := hr.length
    obtain rfl : xs = [] := by simpa using this
    exact .nil
  | c :: cs, cs', xs, i, e, hr, he, hu => by
    match xs, hr with
    | [], hr => have := hr.length; simp at this
    | x :: xs, hr =>
      obtain ⟨G1, G2, eG, r1, r2⟩ := rep_cons hr
      obtain ⟨rfl, rfl⟩ := List.append_eq_nil_iff.1 eG.symm
      have one : ∀ {c'}, (∀ {T : List Cell} {ys : List Value}, Rep S' U' L' w ys T [] → Rep S' U' L' w (x :: ys) (c' :: T) []) → (match giveL h i cs with | some (l', e) => some (c' :: l', e) | none => none) = some (cs', e) → Rep S' U' L' w (x :: xs) cs' [] := fun {c'} hc hh => by
        cases e1 : giveL h i cs with
        | none => rw [e1] at hh; cases hh
        | some p =>
          rw [e1] at hh
          obtain ⟨l1, e2⟩ := p
          obtain ⟨rfl, rfl⟩ := Prod.mk.inj (Option.some.inj hh)
          exact hc (giveL_rep hS r2 e1 hu)
      have fr : ∀ {c : Cell}, closedL [c] = true → Rep (SS k h L F w) U L w [x] [c] [] → ∀ {T : List Cell} {ys : List Value}, Rep S' U' L' w ys T [] → Rep S' U' L' w (x :: ys) (c :: T) [] := fun hcl r T ys ht => ((rep_sub r hS).free hcl).append ht
      cases c with
      | prim v => exact one (fr (by simp [closedL, Cell.closed]) r1) he
      | nil => exact one (fr (by simp [closedL, Cell.closed]) r1) he
      | sl o n s z => cases o with
        | true => cases he
        | false =>
          refine one (fun ht => ?_) he
          cases r1 with
          | ro0 h1 hn => cases hn; exact .ro0 h1 ht
          | ro h1 h2 h3 h4 hc h5 hn => cases hn; exact .ro (fun hl => hS _ (h1 hl)) h2 h3 h4 hc ((rep_sub h5 hS).free hc) ht
      | ref id off n s =>
        simp only [giveL] at he
        split at he
        · rename_i ds hid
          split at he
          · rename_i hc
            split at he
            · rename_i l1 e1 he1
              obtain ⟨rfl, rfl⟩ := Prod.mk.inj (Option.some.inj he)
              obtain ⟨rfl, _, _⟩ := hc
              have ht := giveL_rep (U' := U') (L' := L') hS r2 he1 (fun p q hq => by rw [show i + 1 + p = i + (p + 1) by omega]; exact hu (p + 1) q hq)
              obtain ⟨hu1, hu2⟩ := hu 0 _ rfl
              rw [Nat.add_zero] at hu1 hu2
              simp only at hu2
              cases r1 with
              | ref0 hU hp hnil => cases hnil; exact .ref0 hu1 hp ht
              | @ref _ _ _ _ cap _ _ _ hU hW hn hz hnil =>
                cases hnil
                have := @Rep.ref S' U' L' w i 0 n s cap xs l1 [] hu1 (by rw [hu2]; exact hW) hn hz ht
                rw [hu2] at this; exact this
            · cases he
          · cases he
        · cases he
      | _ => cases he

theorem argsG_get : ∀ {ms : List Mode} {xs : List TV} {i : Nat} {as : List Arg} {sn : List Nat} {ow : List (Option Nat)} {es : List (Nat × List Cell)}, argsG h i ms xs = some (as, sn, ow, es) →
    as.length = xs.length ∧ ow.length = as.length ∧ (∀ e ∈ es, h e.1 = some (true, e.2) ∧ e.2.all Cell.shal = true) ∧
    (∀ (j : Nat) a x, as[j]? = some a → xs[j]? = some x → (∃ m i o, argT h m x = some (a, i, o) ∧ ow[j]? = some o ∧ ∀ y ∈ i, y ∈ sn) ∨
      ∃ b l l' d e, x = .v b l ∧ a = .val b l' ∧ giveL h (i + d) l = some (l', e) ∧ ow[j]? = some none ∧ ∀ (p : Nat) q, e[p]? = some q → es[d + p]? = some q)
  | ms, [], i, as, sn, ow, es, he => by
    cases ms with
    | nil =>
      simp only [argsG, Option.some.injEq, Prod.mk.injEq] at he
      obtain ⟨rfl, rfl, rfl, rfl⟩ := he
      exact ⟨rfl, rfl, by simp, fun j a x h1 _ => by simp at h1⟩
    | cons m ms => cases m <;> simp [argsG] at he
  | ms, x :: xs, i, as, sn, ow, es, he => by
    have old : ∀ {m : Mode} {ms' : List Mode}, (match argT h m x, argsG h i ms' xs with | some (a, i, o), some (as, j, os, es) => some (a :: as, i ++ j, o :: os, es) | _, _ => none) = some (as, sn, ow, es) →
        as.length = (x :: xs).length ∧ ow.length = as.length ∧ (∀ e ∈ es, h e.1 = some (true, e.2) ∧ e.2.all Cell.shal = true) ∧
        (∀ (j : Nat) a y, as[j]? = some a → (x :: xs)[j]? = some y → (∃ m i o, argT h m y = some (a, i, o) ∧ ow[j]? = some o ∧ ∀ z ∈ i, z ∈ sn) ∨
          ∃ b l l' d e, y = .v b l ∧ a = .val b l' ∧ giveL h (i + d) l = some (l', e) ∧ ow[j]? = some none ∧ ∀ (p : Nat) q, e[p]? = some q → es[d + p]? = some q) := by
      intro m ms' he
      split at he
      · rename_i a i1 o as' j' os es' e1 e2
        simp only [Option.some.injEq, Prod.mk.injEq] at he
        obtain ⟨rfl, rfl, rfl, rfl⟩ := he
        obtain ⟨g1, g2, g4, g3⟩ := argsG_get e2
        refine ⟨by simp [g1], by simp [g2], g4, fun j b y h1 h2 => ?_⟩
        cases j with
        | zero =>
          obtain rfl := Option.some.inj h1
          obtain rfl := Option.some.inj h2
          exact .inl ⟨m, i1, o, e1, rfl, fun z hz => by simp [hz]⟩
        | succ j =>
          rcases g3 j b y h1 h2 with ⟨m', i', o', q1, q2, q3⟩ | q
          · exact .inl ⟨m', i', o', q1, q2, fun z hz => by simp [q3 z hz]⟩
          · exact .inr q
      · cases he
    cases ms with
    | nil => exact old he
    | cons m ms =>
      by_cases hm : m = .str ∧ ∃ b l, x = .v b l
      · obtain ⟨rfl, b, l, rfl⟩ := hm
        simp only [argsG] at he
        split at he
        · rename_i l' e1 he1
          split at he
          · rename_i as' j' os es' e2
            simp only [Option.some.injEq, Prod.mk.injEq] at he
            obtain ⟨rfl, rfl, rfl, rfl⟩ := he
            obtain ⟨g1, g2, g4, g3⟩ := argsG_get e2
            refine ⟨by simp [g1], by simp [g2], fun e he => ?_, fun j a y h1 h2 => ?_⟩
            · rcases List.mem_append.1 he with he | he
              · exact giveL_get he1 e he
              · exact g4 e he
            · cases j with
              | zero =>
                obtain rfl := Option.some.inj h1
                obtain rfl := Option.some.inj h2
                exact .inr ⟨b, l, l', 0, e1, rfl, rfl, he1, rfl, fun p q hq => by
                  rw [Nat.zero_add, List.getElem?_append_left (List.getElem?_eq_some_iff.1 hq).1]; exact hq⟩
              | succ j =>
                rcases g3 j a y h1 h2 with q | ⟨b', l2, l2', d, e, q1, q2, q3, q4, q5⟩
                · exact .inl q
                · refine .inr ⟨b', l2, l2', e1.length + d, e, q1, q2, by rw [← Nat.add_assoc]; exact q3, q4, fun p q hq => ?_⟩
                  rw [List.getElem?_append_right (by omega), show e1.length + d + p - e1.length = d + p by omega]
                  exact q5 p q hq
          · cases he
        · cases he
      · have e : argsG h i (m :: ms) (x :: xs) = (match argT h m x, argsG h i ms xs with | some (a, i, o), some (as, j, os, es) => some (a :: as, i ++ j, o :: os, es) | _, _ => none) := by
          cases m with
          | str =>
            cases x with
            | v b l => exact absurd ⟨rfl, b, l, rfl⟩ hm
            | _ => rfl
          | _ => rfl
        rw [e] at he
        exact old he

theorem argsT_get {ms : List Mode} {xs : List TV} {as : List Arg} {sn : List Nat} {ow : List (Option Nat)} (he : argsT h ms xs = some (as, sn, ow)) :
    xs.length ≤ as.length ∧ (noEx as = true → xs.length = as.length) ∧ ow.length = as.length ∧
    (∀ (j : Nat) a x, as[j]? = some a → xs[j]? = some x → (∃ m i o, argT h m x = some (a, i, o) ∧ ow[j]? = some o ∧ ∀ y ∈ i, y ∈ sn) ∨
      ∃ b l l' i e, x = .v b l ∧ a = .val b l' ∧ giveL h i l = some (l', e) ∧ ow[j]? = some none ∧ ∀ (p : Nat) q, e[p]? = some q → i + p < as.length ∧ ow[i + p]? = some (some q.1)) ∧
    (∀ (j : Nat), xs.length ≤ j → j < as.length → ∃ id cs, as[j]? = some (.ex cs) ∧ ow[j]? = some (some id) ∧ h id = some (true, cs) ∧ cs.all Cell.shal = true) := by
  unfold argsT at he
  split at he
  · rename_i as0 sn0 ow0 es e
    simp only [Option.some.injEq, Prod.mk.injEq] at he
    obtain ⟨rfl, rfl, rfl⟩ := he
    obtain ⟨g1, g2, g3, g4⟩ := argsG_get e
    refine ⟨by simp [g1], fun hn => ?_, by simp [g2], fun j a x h1 h2 => ?_, fun j h1 h2 => ?_⟩
    · cases es with
      | nil => simp [g1]
      | cons q es => simp [noEx] at hn
    · have hj : j < xs.length := (List.getElem?_eq_some_iff.1 h2).1
      rw [List.getElem?_append_left (by omega)] at h1
      rcases g4 j a x h1 h2 with ⟨m, i, o, q1, q2, q3⟩ | ⟨b, l, l', d, e', q1, q2, q3, q4, q5⟩
      · exact .inl ⟨m, i, o, q1, by rw [List.getElem?_append_left (by omega)]; exact q2, q3⟩
      · refine .inr ⟨b, l, l', _, e', q1, q2, q3, by rw [List.getElem?_append_left (by omega)]; exact q4, fun p q hq => ?_⟩
        have h5 := q5 p q hq
        have h6 := (List.getElem?_eq_some_iff.1 h5).1
        refine ⟨by simp [g1]; omega, ?_⟩
        rw [List.getElem?_append_right (by omega), show xs.length + d + p - ow0.length = d + p by omega, List.getElem?_map, h5]; rfl
    · have hl : j - as0.length < es.length := by simp at h2; omega
      have he : es[j - as0.length]? = some es[j - as0.length] := List.getElem?_eq_getElem hl
      obtain ⟨q1, q2⟩ := g3 _ (List.getElem_mem hl)
      refine ⟨_, _, ?_, ?_, q1, q2⟩
      · rw [List.getElem?_append_right (by omega), List.getElem?_map, he]; rfl
      · rw [List.getElem?_append_right (by omega), List.getElem?_map, g2, he]; rfl
  · cases he

/-- What is handed on: which node, and how. -/
theorem argT_own {m : Mode} {x : TV} {a : Arg} {i : List Nat} {id : Nat} (he : argT h m x = some (a, i, some id)) :
    ∃ p n s cs, a = .own p n s cs ∧ h id = some (true, cs) ∧ cs.all Cell.shal = true ∧ (x = if p then .v false [.ptr id 0] else .v false [.ref id 0 n s]) ∧ (p = false → cs.length = n * s) := by
  unfold argT at he
  split at he
  · split at he <;> cases he
  · cases he
  · rename_i id' off
    split at he
    · rename_i cs hid
      split at he
      · rename_i hc
        simp only [Option.some.injEq, Prod.mk.injEq] at he
        obtain ⟨rfl, rfl, rfl⟩ := he
        obtain ⟨rfl, hs⟩ := hc
        exact ⟨true, 0, 0, cs, rfl, hid, hs, rfl, fun e => by cases e⟩
      · cases he
    · cases he
  · rename_i id' off n s
    split at he
    · rename_i cs hid
      split at he
      · rename_i hc
        simp only [Option.some.injEq, Prod.mk.injEq] at he
        obtain ⟨rfl, rfl, rfl⟩ := he
        obtain ⟨rfl, hl, hs⟩ := hc
        exact ⟨false, n, s, cs, rfl, hid, hs, rfl, fun _ => hl⟩
      · cases he
    · cases he
  · cases he

theorem argT_val {m : Mode} {x : TV} {a : Arg} {i : List Nat} (he : argT h m x = some (a, i, none)) : (∃ b l l' zs, a = .val b l' ∧ x = .v b l ∧ snapL h zs l = some (l', i)) ∨ ∃ s, a = .own false 0 s [] ∧ x = .v false [.nil] := by
  unfold argT at he
  split at he
  · rename_i zs b l
    split at he
    · rename_i l' j e
      simp only [Option.some.injEq, Prod.mk.injEq, and_true] at he
      obtain ⟨rfl, rfl⟩ := he
      exact .inl ⟨b, l, l', zs, rfl, rfl, e⟩
    · cases he
  · rename_i s
    simp only [Option.some.injEq, Prod.mk.injEq] at he
    obtain ⟨rfl, _, _⟩ := he
    exact .inr ⟨s, rfl, rfl⟩
  · split at he
    · split at he
      · cases he
      · cases he
    · cases he
  · split at he
    · split at he
      · cases he
      · cases he
    · cases he
  · cases he

/-- What the callee only reads stays as it is under the callee. -/
def callBase (k : Base) (h : Nat → Option Node) (w : World) (L : Nat → Nat × Nat) (F : Nat → List Nat) (sn : List Nat) (ow : List (Option Nat)) : Base :=
  ⟨w, fun b => SS k h L F w b ∨ ∃ id ∈ sn, b ∈ Own h L F id, (ow.filterMap id).flatMap (Own h L F)⟩

theorem Mem.gv_call {k : Base} {h : Nat → Option Node} {w : World} {L : Nat → Nat × Nat} {F : Nat → List Nat} {U : Nat → Prop} (m : Mem k h w L F U) {b : Nat} (hb : gBlk = some b) {sn : List Nat} {ow : List (Option Nat)} :
    (callBase k h w L F sn ow).S0 b ∧ ∃ n, (callBase k h w L F sn ow).w0.cell? ⟨b, 0, none⟩ = some (.int .i64 n) := by
  obtain ⟨hs, n, hc⟩ := m.gv b hb
  obtain ⟨h1, h2⟩ := m.S0lt b hs
  refine ⟨.inl ⟨.inl hs, Nat.lt_of_lt_of_le h1 m.grows.1, fun id hid => ?_⟩, n, ?_⟩
  · rcases m.inB id b hid with h3 | h3
    · omega
    · exact h2 h3
  · show w.cell? ⟨b, 0, none⟩ = _
    rw [← hc]
    simp only [World.cell?, m.frame b h1 h2]

def callL (L : Nat → Nat × Nat) (ow : List (Option Nat)) (j : Nat) : Nat × Nat :=
  match ow[j]? with
  | some (some id) => L id
  | _ => (0, 0)

def callF (F : Nat → List Nat) (ow : List (Option Nat)) (j : Nat) : List Nat :=
  match ow[j]? with
  | some (some id) => F id
  | _ => []

theorem snapC_rep {S' : Nat → Prop} (m : Mem k h w L F U) {x : Value} {c c' : Cell} {i : List Nat} (hS : ∀ b, SS k h L F w b → S' b) (hi : ∀ id ∈ i, ∀ b ∈ Own h L F id, S' b) (hr : Rep (SS k h L F w) U L w [x] [c] []) (he : snapC h c = some (c', i))
    (U' : Nat → Prop) (L' : Nat → Nat × Nat) : Rep S' U' L' w [x] [c'] [] := by
  unfold snapC at he
  split at he
  · obtain ⟨rfl, rfl⟩ := Prod.mk.inj (Option.some.inj he); exact (rep_sub hr hS).free (by simp [closedL, Cell.closed])
  · obtain ⟨rfl, rfl⟩ := Prod.mk.inj (Option.some.inj he); exact (rep_sub hr hS).free (by simp [closedL, Cell.closed])
  · obtain ⟨rfl, rfl⟩ := Prod.mk.inj (Option.some.inj he)
    cases hr with
    | ro0 h1 hn => cases hn; exact .ro0 h1 .nil
    | ro h1 h2 h3 h4 hc h5 hn => cases hn; exact .ro (fun hl => hS _ (h1 hl)) h2 h3 h4 hc ((rep_sub h5 hS).free hc) .nil
  · obtain ⟨rfl, rfl⟩ := Prod.mk.inj (Option.some.inj he)
    rename_i s; exact own0_only hr (Q := fun x => Rep S' U' L' w [x] [.sl false 0 s []] []) (fun p hp => ro_zero hp .nil)
  · rename_i id off n s
    split at he
    · rename_i o cs hid
      split at he
      · rename_i hc
        obtain ⟨rfl, rfl⟩ := Prod.mk.inj (Option.some.inj he)
        obtain ⟨hc1, hc2⟩ := hc
        obtain ⟨_, us, g1, g2, g3, g4⟩ := m.node id _ hid
        simp only at g2 g4
        have hl := g2.length
        have ecs : cs = cs.take off ++ (cs.drop off).take (n * s) ++ cs.drop (off + n * s) := by
          rw [List.append_assoc, ← List.drop_drop, List.take_append_drop, List.take_append_drop]
        rw [ecs] at g2
        obtain ⟨uAB, uC, FAB, FC, rfl, eF, rAB, rC⟩ := g2.split
        obtain ⟨uA, uB, FA, FB, rfl, rfl, rA, rB⟩ := rAB.split
        have lA := rA.length; have lB := rB.length
        have hA : (cs.take off).length = off := by simp; omega
        have hB : ((cs.drop off).take (n * s)).length = n * s := by simp; omega
        have hcl := rB.closed hc2
        have hF : ∀ b ∈ FB, S' b := by
          intro b hb
          cases o with
          | true =>
            have hne : cs ≠ [] := fun e => by
              have : (cs.drop off).take (n * s) = [] := by rw [e]; simp
              rw [this] at rB
              rw [(rep_nil rB).2] at hb; cases hb
            exact hi id (by simp) b (by rw [own_ne hid hne, eF]; simp [hb])
          | false =>
            obtain ⟨g5, _⟩ := g4 rfl
            rw [g5] at eF
            have : FB = [] := (List.append_eq_nil_iff.1 (List.append_eq_nil_iff.1 eF.symm).1).2
            subst this; cases hb
        have hLid : cs ≠ [] → S' (L id).1 := fun hne => by
          cases o with
          | true => exact hi id (by simp) _ (by rw [own_ne hid hne]; simp)
          | false => exact hS _ ((g4 rfl).2 hne)
        have hr2 := rangeAt_right (rangeAt_left g1)
        rw [show uA.length = off by omega] at hr2
        cases hr with
        | ref0 hU hp hnil =>
          cases hnil
          simpa [roifyL] using @ro_zero S' U' L' w _ s [] [] [] hp .nil
        | ref hU hW hn hz hnil =>
          cases hnil
          exact .ro (us := uB) (fun hne => hLid (fun e => hne (by rw [e]; simp [roifyL]))) (by rw [roifyL_length, hB]) hn hr2 (by rw [closedL_roify]; exact hcl) ((rB.roify hS hF).free (by rw [closedL_roify]; exact hcl)) .nil
      · cases he
    · cases he
  · cases he

theorem snapL_rep {S' : Nat → Prop} (m : Mem k h w L F U) (hS : ∀ b, SS k h L F w b → S' b) (U' : Nat → Prop) (L' : Nat → Nat × Nat) : ∀ {zs : List Nat} {cs cs' : List Cell} {xs : List Value} {i : List Nat}, (∀ id ∈ i, ∀ b ∈ Own h L F id, S' b) →
    Rep (SS k h L F w) U L w xs cs [] → snapL h zs cs = some (cs', i) → Rep S' U' L' w xs cs' []
  | zs, [], cs', xs, i, _, hr, he => by
    have he : some (([] : List Cell), ([] : List Nat)) = some (cs', i) := by cases zs <;> exact he
    obtain ⟨rfl, rfl⟩ := Prod.mk.inj (Option.some.inj he)
    have := hr.length
    obtain rfl : xs = [] := by simpa using this
    exact .nil
  | zs, c :: cs, cs', xs, i, hi, hr, he => by
    match xs, hr with
    | [], hr => have := hr.length; simp at this
    | x :: xs, hr =>
      obtain ⟨G1, G2, e, r1, r2⟩ := rep_cons hr
      obtain ⟨rfl, rfl⟩ := List.append_eq_nil_iff.1 e.symm
      unfold snapL at he
      split at he
      · rename_i e3; cases e3
      · rename_i s zs' cs0 e3
        obtain ⟨rfl, rfl⟩ := List.cons.inj e3
        split at he
        · rename_i cs'' j e2
          obtain ⟨rfl, rfl⟩ := Prod.mk.inj (Option.some.inj he)
          obtain rfl := rep_nilc r1
          exact .ro0 (fun _ => rfl) (snapL_rep m hS U' L' hi r2 e2)
        · cases he
      · rename_i c0 cs0 _ e3
        obtain ⟨rfl, rfl⟩ := List.cons.inj e3
        split at he
        · rename_i c' i1 cs'' i2 e1 e2
          obtain ⟨rfl, rfl⟩ := Prod.mk.inj (Option.some.inj he)
          have h1 := snapC_rep m hS (fun id hid => hi id (by simp [hid])) r1 e1 U' L'
          have h2 := snapL_rep m hS U' L' (fun id hid => hi id (by simp [hid])) r2 e2
          exact h1.append h2
        · cases he

theorem argTVs_get : ∀ (as : List Arg) (j0 j : Nat), (argTVs j0 as)[j]? = (as[j]?).map fun a => a.tv (j0 + j)
  | [], _, _ => by simp [argTVs]
  | a :: as, j0, 0 => by simp [argTVs]
  | a :: as, j0, j + 1 => by
    simp only [argTVs, List.getElem?_cons_succ]
    rw [argTVs_get as (j0 + 1) j, show j0 + 1 + j = j0 + (j + 1) by omega]

theorem node_get (as : List Arg) (j : Nat) : ndOf (as.map Arg.node) j = (as[j]?).bind Arg.node := by
  unfold ndOf
  rw [List.getElem?_map]
  cases as[j]? <;> rfl

/-- The callee's start. -/
theorem call_start (m : Mem k h w L F U) {ms : List Mode} {tvs : List TV} {xs : List Value} {as : List Arg} {sn : List Nat} {ow : List (Option Nat)} (he : argsT h ms tvs = some (as, sn, ow)) (hnd : (ow.filterMap id).Nodup) (hdis : ∀ x ∈ sn, some x ∉ ow)
    (hl : xs.length = tvs.length) (hx : ∀ (j : Nat) x t, xs[j]? = some x → tvs[j]? = some t → RTV (SS k h L F w) U L w x t) :
    Mem (callBase k h w L F sn ow) (ndOf (as.map Arg.node)) w (callL L ow) (callF F ow) (· < as.length) ∧
    ∀ i, RTV (SS (callBase k h w L F sn ow) (ndOf (as.map Arg.node)) (callL L ow) (callF F ow) w) (· < as.length) (callL L ow) w (xs.toArray.getD i undef) ((argTVs 0 as).getD i .undef) := by
  obtain ⟨l1, _, l2, get, ext⟩ := argsT_get he
  -- each node of the callee's is one of the caller's
  have node : ∀ j nd, ndOf (as.map Arg.node) j = some nd → (∃ id cs, ow[j]? = some (some id) ∧ nd = (true, cs) ∧ h id = some (true, cs) ∧ cs.all Cell.shal = true) ∨ (nd = (true, []) ∧ j < as.length ∧ ow[j]? = some none) := by
    intro j nd hj
    rw [node_get] at hj
    cases ha : as[j]? with
    | none => rw [ha] at hj; cases hj
    | some a =>
      rw [ha] at hj
      have hja := (List.getElem?_eq_some_iff.1 ha).1
      by_cases hjl : j < tvs.length
      · rcases get j a tvs[j] ha (List.getElem?_eq_getElem hjl) with ⟨m', i, o, q1, q2, q3⟩ | ⟨b, l, l', _, _, _, rfl, _⟩
        · cases o with
          | none =>
            rcases argT_val q1 with ⟨b, l, l', zs, rfl, _, _⟩ | ⟨s, rfl, _⟩
            · cases hj
            · exact .inr ⟨(Option.some.inj hj).symm, hja, q2⟩
          | some id =>
            obtain ⟨p, n, s, cs, rfl, e1, e2, _, _⟩ := argT_own q1
            exact .inl ⟨id, cs, q2, (Option.some.inj hj).symm, e1, e2⟩
        · cases hj
      · obtain ⟨id, cs, q1, q2, q3, q4⟩ := ext j (by omega) hja
        rw [ha] at q1
        obtain rfl := Option.some.inj q1
        exact .inl ⟨id, cs, q2, (Option.some.inj hj).symm, q3, q4⟩
  have own : ∀ j, Own (ndOf (as.map Arg.node)) (callL L ow) (callF F ow) j = [] ∨ ∃ id, ow[j]? = some (some id) ∧ Own (ndOf (as.map Arg.node)) (callL L ow) (callF F ow) j = Own h L F id := by
    intro j
    cases hj : ndOf (as.map Arg.node) j with
    | none => left; simp [Own, hj]
    | some nd =>
      rcases node j nd hj with ⟨id, cs, e1, rfl, e2, _⟩ | ⟨rfl, _⟩
      · refine .inr ⟨id, e1, ?_⟩
        rw [own_of hj, own_of e2]
        simp [callL, callF, e1]
      · left; rw [own_of hj]; rfl
  have memow : ∀ {j : Nat} {id : Nat}, ow[j]? = some (some id) → id ∈ ow.filterMap (fun x => x) := fun {j id} hj => List.mem_filterMap.2 ⟨some id, List.mem_of_getElem? hj, rfl⟩
  have uniq : ∀ (o : List (Option Nat)) (i j : Nat) (id : Nat), (o.filterMap (fun x => x)).Nodup → o[i]? = some (some id) → o[j]? = some (some id) → i = j := by
    intro o
    induction o with
    | nil => intro i j id _ h1; simp at h1
    | cons a o ih =>
      intro i j id hn h1 h2
      have hn' : (o.filterMap (fun x => x)).Nodup := by
        cases a with
        | none => simpa using hn
        | some a => simp only [List.filterMap_cons] at hn; exact (List.nodup_cons.1 hn).2
      cases i with
      | zero =>
        cases j with
        | zero => rfl
        | succ j =>
          obtain rfl := Option.some.inj h1
          simp only [List.filterMap_cons] at hn
          have h2' : o[j]? = some (some id) := h2
          exact absurd (show id ∈ o.filterMap (fun x => x) from List.mem_filterMap.2 ⟨some id, List.mem_of_getElem? h2', rfl⟩) (List.nodup_cons.1 hn).1
      | succ i =>
        cases j with
        | zero =>
          obtain rfl := Option.some.inj h2
          simp only [List.filterMap_cons] at hn
          have h1' : o[i]? = some (some id) := h1
          exact absurd (show id ∈ o.filterMap (fun x => x) from List.mem_filterMap.2 ⟨some id, List.mem_of_getElem? h1', rfl⟩) (List.nodup_cons.1 hn).1
        | succ j => rw [ih i j id hn' h1 h2]
  have inB0 : ∀ {b}, b ∈ (callBase k h w L F sn ow).B0 → ∃ id, some id ∈ ow ∧ b ∈ Own h L F id := by
    intro b hb
    obtain ⟨id, h1, h2⟩ := List.mem_flatMap.1 hb
    obtain ⟨o, h3, h4⟩ := List.mem_filterMap.1 h1
    exact ⟨id, by rw [← h4]; exact h3, h2⟩
  have hSS : ∀ b, SS k h L F w b → SS (callBase k h w L F sn ow) (ndOf (as.map Arg.node)) (callL L ow) (callF F ow) w b := fun b hb =>
    ⟨.inl (.inl hb), hb.2.1, fun j hj => by
      rcases own j with e | ⟨id, _, e⟩
      · rw [e] at hj; cases hj
      · rw [e] at hj; exact hb.2.2 id hj⟩
  have hsn : ∀ id ∈ sn, ∀ b ∈ Own h L F id, SS (callBase k h w L F sn ow) (ndOf (as.map Arg.node)) (callL L ow) (callF F ow) w b := fun id hid b hb =>
    ⟨.inl (.inr ⟨id, hid, hb⟩), Own.lt m hb, fun j hj => by
      rcases own j with e | ⟨id', e1, e⟩
      · rw [e] at hj; cases hj
      · rw [e] at hj
        by_cases e2 : id = id'
        · subst e2; exact hdis id hid (List.mem_of_getElem? e1)
        · exact m.disj id id' e2 b hb hj⟩
  refine ⟨⟨fun b hb => ?_, fun b hb => ?_, fun j nd hj => ?_, fun j => ?_, fun i j hij b hb hc => ?_, fun j b hb => ?_, fun _ _ _ => rfl, rfl, rfl, rfl, Grows.refl _, fun b hb => m.gv_call hb⟩, fun j => ?_⟩
  · rcases hb with hb | ⟨id, hid, hb⟩
    · exact ⟨hb.2.1, fun hc => by obtain ⟨id, _, hi⟩ := inB0 hc; exact hb.2.2 id hi⟩
    · refine ⟨Own.lt m hb, fun hc => ?_⟩
      obtain ⟨id', h1, h2⟩ := inB0 hc
      by_cases e2 : id = id'
      · subst e2; exact hdis id hid h1
      · exact m.disj id id' e2 b hb h2
  · obtain ⟨id, _, h2⟩ := inB0 hb; exact Own.lt m h2
  · rcases node j nd hj with ⟨id, cs, e1, rfl, e2, e3⟩ | ⟨rfl, hj', e1⟩
    rotate_left
    · have : callF F ow j = [] := by simp [callF, e1]
      rw [this]
      exact ⟨hj', [], rangeAt_nil _ _ _, .nil, fun q => absurd rfl q, fun e => by cases e⟩
    obtain ⟨_, us, g1, g2, g3, _⟩ := m.node id _ e2
    simp only at g2
    have hj' : j < as.length := by
      rw [← l2]; exact (List.getElem?_eq_some_iff.1 e1).1
    refine ⟨hj', us, by simpa [callL, e1] using g1, ?_, by simpa [callL, e1] using g3, fun e => by cases e⟩
    have : callF F ow j = F id := by simp [callF, e1]
    rw [this]
    exact (rep_sub g2 hSS).free (g2.closed e3)
  · rcases own j with e | ⟨id, _, e⟩
    · rw [e]; simp
    · rw [e]; exact m.nodup id
  · rcases own i with e | ⟨id, e1, e⟩
    · rw [e] at hb; cases hb
    · rcases own j with e' | ⟨id', e2, e'⟩
      · rw [e'] at hc; cases hc
      · rw [e] at hb; rw [e'] at hc
        by_cases e3 : id = id'
        · subst e3; exact hij (uniq ow i j id hnd e1 e2)
        · exact m.disj id id' e3 b hb hc
  · rcases own j with e | ⟨id, e1, e⟩
    · rw [e] at hb; cases hb
    · rw [e] at hb
      exact .inr (List.mem_flatMap.2 ⟨id, memow e1, hb⟩)
  · have hg : (argTVs 0 as).getD j .undef = (((as[j]?).map fun a => a.tv j)).getD .undef := by
      rw [List.getD_eq_getElem?_getD, argTVs_get]; simp
    rw [hg]
    cases ha : as[j]? with
    | none => trivial
    | some a =>
      have hja : j < as.length := (List.getElem?_eq_some_iff.1 ha).1
      by_cases hjl : j < tvs.length
      rotate_left
      · obtain ⟨id, cs, q1, _⟩ := ext j (by omega) hja
        rw [ha] at q1
        obtain rfl := Option.some.inj q1
        trivial
      have hjx : j < xs.length := by omega
      have hget := get j a tvs[j] ha (List.getElem?_eq_getElem hjl)
      have hr := hx j xs[j] tvs[j] (List.getElem?_eq_getElem hjx) (List.getElem?_eq_getElem hjl)
      have hxv : xs.toArray.getD j undef = xs[j] := by simp [Array.getD_eq_getD_getElem?, hjx]
      rw [hxv]
      simp only [Option.map_some, Option.getD_some]
      rcases hget with ⟨m', i, o, q1, q2, q3⟩ | ⟨b, l, l', i, e, e1, rfl, q1, q2, q3⟩
      rotate_left
      · rw [e1] at hr
        have hu : ∀ (p : Nat) q, e[p]? = some q → (i + p < as.length) ∧ callL L ow (i + p) = L q.1 := fun p q hq => by
          obtain ⟨z1, z2⟩ := q3 p q hq
          exact ⟨z1, by simp [callL, z2]⟩
        cases b with
        | false => exact giveL_rep hSS hr q1 hu
        | true =>
          obtain ⟨vs, e3, hr⟩ := hr
          exact ⟨vs, e3, giveL_rep hSS hr q1 hu⟩
      cases o with
      | none =>
        rcases argT_val q1 with ⟨b, l, l', zs, rfl, e1, e2⟩ | ⟨s, rfl, e1⟩
        rotate_left
        · rw [e1] at hr
          show Rep _ _ _ _ _ _ _
          generalize xs[j] = x at hr
          obtain rfl := rep_nilc hr
          exact .ref0 hja (.inl rfl) .nil
        rw [e1] at hr
        cases b with
        | false => exact snapL_rep m hSS _ _ (fun id hid => hsn id (q3 id hid)) hr e2
        | true =>
          obtain ⟨vs, e3, hr⟩ := hr
          exact ⟨vs, e3, snapL_rep m hSS _ _ (fun id hid => hsn id (q3 id hid)) hr e2⟩
      | some id =>
        obtain ⟨p, n, s, cs, rfl, e1, e2, e3, e4⟩ := argT_own q1
        have eL : callL L ow j = L id := by simp [callL, q2]
        rw [e3] at hr
        cases p with
        | true =>
          simp only [if_true] at hr
          show Rep _ _ _ _ _ _ _
          generalize xs[j] = x at hr
          cases hr with
          | ptr hU hnil =>
            have := @Rep.ptr (SS (callBase k h w L F sn ow) (ndOf (as.map Arg.node)) (callL L ow) (callF F ow) w) (· < as.length) (callL L ow) w j 0 [] [] [] hja .nil
            rw [eL] at this; exact this
        | false =>
          simp only [Bool.false_eq_true, if_false] at hr
          show Rep _ _ _ _ _ _ _
          generalize xs[j] = x at hr
          cases hr with
          | ref0 hU hp hnil => exact .ref0 hja hp .nil
          | @ref _ _ _ _ cap _ _ _ hU hW hn hz hnil =>
            have := @Rep.ref (SS (callBase k h w L F sn ow) (ndOf (as.map Arg.node)) (callL L ow) (callF F ow) w) (· < as.length) (callL L ow) w j 0 n s cap [] [] [] hja (by rw [eL]; exact hW) hn hz .nil
            rw [eL] at this; exact this

end
end

section
open Go Go.RowKit

abbrev Locs := List ((Nat × Nat) × List Nat × List Nat)

def Locs.blocks (l : Locs) : List Nat := l.flatMap fun p => p.2.2

/-- What the nodes of results have. -/
def LocsOK (S : Nat → Prop) (w : World) (locs : Locs) (cs : List (List Cell)) : Prop :=
  locs.length = cs.length ∧ ∀ (i : Nat) p c, locs[i]? = some p → cs[i]? = some c → ∃ vs, w.rangeAt p.1.1 p.1.2 vs ∧ Rep S noU noL w vs c p.2.1 ∧ (c ≠ [] → Wr w p.1.1 (p.1.2 + vs.length)) ∧ closedL c = true ∧ p.2.2 = OB p.1.1 p.2.1 c

def LocsAt (nid : Nat) (locs : Locs) (U' : Nat → Prop) (L' : Nat → Nat × Nat) : Prop := ∀ (i : Nat) p, locs[i]? = some p → U' (nid + i) ∧ L' (nid + i) = p.1

theorem LocsAt.tail {nid : Nat} {p : (Nat × Nat) × List Nat × List Nat} {locs : Locs} {U' L'} (h : LocsAt nid (p :: locs) U' L') : LocsAt (nid + 1) locs U' L' := fun i q hq => by
  have := h (i + 1) q hq
  rwa [show nid + (i + 1) = nid + 1 + i by omega] at this

theorem LocsAt.left {nid : Nat} {l1 l2 : Locs} {U' L'} (h : LocsAt nid (l1 ++ l2) U' L') : LocsAt nid l1 U' L' := fun i q hq => h i q (by rw [List.getElem?_append_left (List.getElem?_eq_some_iff.1 hq).1]; exact hq)

theorem LocsAt.right {nid : Nat} {l1 l2 : Locs} {U' L'} (h : LocsAt nid (l1 ++ l2) U' L') : LocsAt (nid + l1.length) l2 U' L' := fun i q hq => by
  have := h (l1.length + i) q (by rw [List.getElem?_append_right (by omega)]; simpa using hq)
  rwa [← Nat.add_assoc] at this

theorem LocsOK.append {S : Nat → Prop} {w : World} {l1 l2 : Locs} {c1 c2 : List (List Cell)} (h1 : LocsOK S w l1 c1) (h2 : LocsOK S w l2 c2) : LocsOK S w (l1 ++ l2) (c1 ++ c2) := by
  refine ⟨by simp [h1.1, h2.1], fun i p c hp hc => ?_⟩
  by_cases hi : i < l1.length
  · rw [List.getElem?_append_left hi] at hp
    rw [List.getElem?_append_left (by rw [← h1.1]; exact hi)] at hc
    exact h1.2 i p c hp hc
  · rw [List.getElem?_append_right (by omega)] at hp
    rw [List.getElem?_append_right (by rw [← h1.1]; omega), ← h1.1] at hc
    exact h2.2 _ p c hp hc

theorem rep_pure {S U L w} {vs : List Value} {cs : List Cell} {G : List Nat} (hr : Rep S U L w vs cs G) (hp : pureL cs = true) (S' : Nat → Prop) : Rep S' U L w vs cs G := by
  induction hr with
  | nil => exact .nil
  | prim h1 _ ih => exact .prim h1 (ih (by simp [pureL] at hp; exact hp.2))
  | nils _ ih => exact .nils (ih (by simp [pureL] at hp; exact hp.2))
  | @ro b o n cap s l us vs cs F h1 h2 h3 h4 hc h5 _ ih1 ih =>
    simp [pureL, Cell.pure] at hp
    obtain ⟨hp1, hp2⟩ := hp
    subst hp1
    exact .ro (fun e => absurd rfl e) h2 h3 h4 hc (ih1 rfl) (ih hp2)
  | own h1 h2 h3 h4 hc hz _ _ ih1 ih => simp [pureL, Cell.pure] at hp; exact .own h1 h2 h3 h4 hc hz (ih1 hp.1) (ih hp.2)
  | ref h1 h2 h3 hz _ ih => exact .ref h1 h2 h3 hz (ih (by simp [pureL] at hp; exact hp.2))
  | ro0 h1 _ ih => exact .ro0 h1 (ih (by simp [pureL] at hp; exact hp.2))
  | own0 h1 _ ih => exact .own0 h1 (ih (by simp [pureL] at hp; exact hp.2))
  | ref0 h1 h2 _ ih => exact .ref0 h1 h2 (ih (by simp [pureL] at hp; exact hp.2))
  | ptr h1 _ ih => exact .ptr h1 (ih (by simp [pureL] at hp; exact hp.2))
  | rop h1 h4 hc h5 _ _ ih => simp [pureL, Cell.pure] at hp
  | ownp h1 h4 hc hz _ _ ih1 ih => simp [pureL, Cell.pure] at hp; exact .ownp h1 h4 hc hz (ih1 hp.1) (ih hp.2)
  | dead h1 _ ih => exact .dead h1 (ih (by simp [pureL] at hp; exact hp.2))

theorem pure_tail {S S' : Nat → Prop} {c : Cell} {cs : List Cell} (h : (∀ b, S b → S' b) ∨ pureL (c :: cs) = true) : (∀ b, S b → S' b) ∨ pureL cs = true :=
  h.imp id fun q => by simp only [pureL, Bool.and_eq_true] at q; exact q.2

theorem placeL_rep {S : Nat → Prop} {w : World} {us : List Value} {cs : List Cell} {G : List Nat} (hr : Rep S noU noL w us cs G) : ∀ nid, ∃ locs : Locs, G = locs.blocks ∧ LocsOK S w locs (ownsL cs) ∧
    ∀ S' U' L', ((∀ b, S b → S' b) ∨ pureL cs = true) → LocsAt nid locs U' L' → Rep S' U' L' w us (placeL nid cs) [] := by
  induction hr with
  | nil => intro nid; exact ⟨[], rfl, ⟨rfl, fun i p c h => by simp at h⟩, fun _ _ _ _ _ => .nil⟩
  | prim h1 _ ih => intro nid; obtain ⟨locs, e1, e2, e3⟩ := ih nid; exact ⟨locs, e1, e2, fun S' U' L' hp h => .prim h1 (e3 S' U' L' (pure_tail hp) h)⟩
  | nils _ ih => intro nid; obtain ⟨locs, e1, e2, e3⟩ := ih nid; exact ⟨locs, e1, e2, fun S' U' L' hp h => .nils (e3 S' U' L' (pure_tail hp) h)⟩
  | @ro b o n cap s l us vs cs F h1 h2 h3 h4 hc h5 _ _ ih =>
    intro nid; obtain ⟨locs, e1, e2, e3⟩ := ih nid
    refine ⟨locs, e1, e2, fun S' U' L' hp h => ?_⟩
    rcases hp with hp | hp
    · exact .ro (fun hl => hp _ (h1 hl)) h2 h3 h4 hc ((rep_sub h5 hp).free hc) (e3 S' U' L' (.inl hp) h)
    · simp [pureL, Cell.pure] at hp
      obtain ⟨hp1, hp2⟩ := hp
      subst hp1
      exact .ro (fun e => absurd rfl e) h2 h3 h4 hc ((rep_pure h5 rfl S').free hc) (e3 S' U' L' (.inr hp2) h)
  | @own b o n cap s l us' F1 vs cs' F' h1 h2 h3 h4 hc hz h5 _ _ ih =>
    intro nid
    obtain ⟨locs, e1, e2, e3⟩ := ih (nid + 1)
    refine ⟨((b, o), F1, b :: F1) :: locs, by simp [Locs.blocks, e1], ⟨by simp [ownsL, e2.1], fun i p c hp hc' => ?_⟩, fun S' U' L' hpp h => ?_⟩
    · cases i with
      | zero =>
        obtain rfl := Option.some.inj hp
        obtain rfl := Option.some.inj hc'
        have := h5.length
        have := Nat.mul_le_mul_right s h3
        exact ⟨us', h4, h5, fun _ => h1.mono (by simp only; omega), hc, (OB_ne hz).symm⟩
      | succ i => exact e2.2 i p c hp hc'
    · obtain ⟨g1, g2⟩ := h 0 _ rfl
      have hrest := e3 S' U' L' (pure_tail hpp) h.tail
      simp only [Nat.add_zero] at g1 g2
      have hn0 : n ≠ 0 := fun e => hz (by subst e; simpa using h2)
      have := @Rep.ref S' U' L' w nid 0 n s cap vs (placeL (nid + 1) cs') [] g1 (by rw [g2]; simpa using h1) h3 hn0 hrest
      rw [g2] at this
      simpa [placeL] using this
  | @own0 pp s vs cs' F' h1 _ ih =>
    intro nid
    obtain ⟨locs, e1, e2, e3⟩ := ih (nid + 1)
    refine ⟨((0, 0), [], []) :: locs, by simp [Locs.blocks, e1], ⟨by simp [ownsL, e2.1], fun i p c hp hc' => ?_⟩, fun S' U' L' hpp h => ?_⟩
    · cases i with
      | zero =>
        obtain rfl := Option.some.inj hp
        obtain rfl := Option.some.inj hc'
        exact ⟨[], rangeAt_nil _ _ _, .nil, fun q => absurd rfl q, rfl, rfl⟩
      | succ i => exact e2.2 i p c hp hc'
    · obtain ⟨g1, _⟩ := h 0 _ rfl
      have hrest := e3 S' U' L' (pure_tail hpp) h.tail
      simp only [Nat.add_zero] at g1
      exact .ref0 g1 h1 hrest
  | ro0 h1 _ ih => intro nid; obtain ⟨locs, e1, e2, e3⟩ := ih nid; exact ⟨locs, e1, e2, fun S' U' L' hp h => .ro0 h1 (e3 S' U' L' (pure_tail hp) h)⟩
  | ref0 h1 _ _ _ => exact h1.elim
  | ref h1 _ _ _ _ _ => exact h1.elim
  | ptr h1 _ _ => exact h1.elim
  | rop h1 h4 hc h5 _ _ ih =>
    intro nid; obtain ⟨locs, e1, e2, e3⟩ := ih nid
    refine ⟨locs, e1, e2, fun S' U' L' hp h => ?_⟩
    rcases hp with hp | hp
    · exact .rop (fun e => hp _ (h1 e)) h4 hc ((rep_sub h5 hp).free hc) (e3 S' U' L' (.inl hp) h)
    · simp [pureL, Cell.pure] at hp
  | @ownp b o l us' F1 vs cs' F' h1 h4 hc hz h5 _ _ ih =>
    intro nid
    obtain ⟨locs, e1, e2, e3⟩ := ih (nid + 1)
    refine ⟨((b, o), F1, b :: F1) :: locs, by simp [Locs.blocks, e1], ⟨by simp [ownsL, e2.1], fun i p c hp hc' => ?_⟩, fun S' U' L' hpp h => ?_⟩
    · cases i with
      | zero =>
        obtain rfl := Option.some.inj hp
        obtain rfl := Option.some.inj hc'
        have := h5.length
        exact ⟨us', h4, h5, fun _ => h1.mono (by simp only; omega), hc, (OB_ne hz).symm⟩
      | succ i => exact e2.2 i p c hp hc'
    · obtain ⟨g1, g2⟩ := h 0 _ rfl
      have hrest := e3 S' U' L' (pure_tail hpp) h.tail
      simp only [Nat.add_zero] at g1 g2
      have := @Rep.ptr S' U' L' w nid 0 vs (placeL (nid + 1) cs') [] g1 hrest
      rw [g2] at this
      simpa [placeL] using this
  | dead h1 _ ih => intro nid; obtain ⟨locs, e1, e2, e3⟩ := ih nid; exact ⟨locs, e1, e2, fun S' U' L' hp h => .dead h1 (e3 S' U' L' (pure_tail hp) h)⟩

theorem placeV_rep {S : Nat → Prop} {w : World} : ∀ {xs : List Value} {vals : List (Bool × List Cell)} {G : List Nat}, RVs S w xs vals G → ∀ nid, ∃ locs : Locs, G = locs.blocks ∧ LocsOK S w locs (ownsV vals) ∧
    ∀ S' U' L', ((∀ b, S b → S' b) ∨ vals.all (fun p => pureL p.2) = true) → LocsAt nid locs U' L' → xs.length = (placeV nid vals).length ∧ ∀ (i : Nat) x v, xs[i]? = some x → (placeV nid vals)[i]? = some v → RV S' U' L' w x v
  | [], [], G, h, nid => ⟨[], h, ⟨rfl, fun i p c h => by simp at h⟩, fun _ _ _ _ _ => ⟨rfl, fun i x v h => by simp at h⟩⟩
  | [], _ :: _, _, h, _ => h.elim
  | _ :: _, [], _, h, _ => h.elim
  | x :: xs, (b, l) :: vs, G, h, nid => by
    obtain ⟨G1, G2, rfl, h1, h2⟩ := h
    have hx : ∃ us, (b = false → us = [x]) ∧ (b = true → ∃ ws : Array Value, x = .agg ws ∧ us = ws.toList) ∧ Rep S noU noL w us l G1 := by
      cases b with
      | false => exact ⟨[x], fun _ => rfl, (fun e => by cases e), h1⟩
      | true => obtain ⟨ws, e, h1⟩ := h1; exact ⟨ws.toList, (fun e => by cases e), fun _ => ⟨ws, e, rfl⟩, h1⟩
    obtain ⟨us, hu1, hu2, hu⟩ := hx
    obtain ⟨l1, e1, e2, e3⟩ := placeL_rep hu nid
    obtain ⟨l2, f1, f2, f3⟩ := placeV_rep h2 (nid + l1.length)
    refine ⟨l1 ++ l2, by simp [Locs.blocks, e1, f1], e2.append f2, fun S' U' L' hp hat => ?_⟩
    have hp1 : (∀ b, S b → S' b) ∨ pureL l = true := hp.imp id fun q => by simp only [List.all_cons, Bool.and_eq_true] at q; exact q.1
    have hp2 : (∀ b, S b → S' b) ∨ vs.all (fun p => pureL p.2) = true := hp.imp id fun q => by simp only [List.all_cons, Bool.and_eq_true] at q; exact q.2
    have g1 := e3 S' U' L' hp1 hat.left
    obtain ⟨g2, g3⟩ := f3 S' U' L' hp2 hat.right
    rw [e2.1] at g2 g3
    refine ⟨by simp [placeV, g2], fun i y v hy hv => ?_⟩
    cases i with
    | zero =>
      obtain rfl := Option.some.inj hy
      obtain rfl := Option.some.inj hv
      cases b with
      | false => rw [hu1 rfl] at g1; exact g1
      | true => obtain ⟨ws, e, e'⟩ := hu2 rfl; rw [e'] at g1; exact ⟨ws, e, g1⟩
    | succ i => exact g3 i y v hy hv

theorem backU_other : ∀ {ow : List (Option Nat)} {outs : List (Option (List Cell))} {h : Nat → Option Node} {x : Nat}, some x ∉ ow → ups h (backU ow outs) x = h x
  | [], _, _, _, _ => by simp [backU, ups]
  | some id :: os, [], h, x, hx => by
    have : x ≠ id := fun e => hx (by simp [e])
    show ups (upd h id none) (backU os []) x = h x
    rw [backU_other (fun hc => hx (by simp [hc])), upd_other _ _ this]
  | some id :: os, o :: outs, h, x, hx => by
    have : x ≠ id := fun e => hx (by simp [e])
    show ups (upd h id _) (backU os outs) x = h x
    rw [backU_other (fun hc => hx (by simp [hc])), upd_other _ _ this]
  | none :: os, [], h, x, hx => by
    show ups h (backU os []) x = h x
    exact backU_other (fun hc => hx (by simp [hc]))
  | none :: os, o :: outs, h, x, hx => by
    show ups h (backU os outs) x = h x
    exact backU_other (fun hc => hx (by simp [hc]))

theorem not_mem_of_nodup {id : Nat} {os : List (Option Nat)} (h : ((some id :: os).filterMap (fun x => x)).Nodup) : some id ∉ os := by
  intro hc
  simp only [List.filterMap_cons] at h
  exact (List.nodup_cons.1 h).1 (List.mem_filterMap.2 ⟨some id, hc, rfl⟩)

theorem nodup_tail {o : Option Nat} {os : List (Option Nat)} (h : ((o :: os).filterMap (fun x => x)).Nodup) : (os.filterMap (fun x => x)).Nodup := by
  cases o with
  | none => simpa using h
  | some a => simp only [List.filterMap_cons] at h; exact (List.nodup_cons.1 h).2

theorem backU_at : ∀ {ow : List (Option Nat)} {outs : List (Option (List Cell))} {h : Nat → Option Node} {x j : Nat}, (ow.filterMap (fun x => x)).Nodup → ow[j]? = some (some x) → ups h (backU ow outs) x = (outs[j]?).join.map fun c => (true, c)
  | [], _, _, _, _, _, h => by simp at h
  | o :: os, [], h, x, 0, hn, hj => by
    obtain rfl := Option.some.inj hj
    show ups (upd h x none) (backU os []) x = _
    rw [backU_other (not_mem_of_nodup hn), upd_same]; rfl
  | o :: os, out :: outs, h, x, 0, hn, hj => by
    obtain rfl := Option.some.inj hj
    show ups (upd h x _) (backU os outs) x = _
    rw [backU_other (not_mem_of_nodup hn), upd_same]; rfl
  | some id :: os, [], h, x, j + 1, hn, hj => by
    show ups (upd h id none) (backU os []) x = _
    rw [backU_at (nodup_tail hn) (show os[j]? = some (some x) from hj)]; simp
  | none :: os, [], h, x, j + 1, hn, hj => by
    show ups h (backU os []) x = _
    rw [backU_at (nodup_tail hn) (show os[j]? = some (some x) from hj)]; simp
  | some id :: os, out :: outs, h, x, j + 1, hn, hj => by
    show ups (upd h id _) (backU os outs) x = _
    rw [backU_at (nodup_tail hn) (show os[j]? = some (some x) from hj)]; simp
  | none :: os, out :: outs, h, x, j + 1, hn, hj => by
    show ups h (backU os outs) x = _
    rw [backU_at (nodup_tail hn) (show os[j]? = some (some x) from hj)]; simp

theorem newU_other : ∀ {cs : List (List Cell)} {nid : Nat} {h : Nat → Option Node} {x : Nat}, (x < nid ∨ nid + cs.length ≤ x) → ups h (newU nid cs) x = h x
  | [], _, _, _, _ => rfl
  | c :: cs, nid, h, x, hx => by
    show ups (upd h nid _) (newU (nid + 1) cs) x = h x
    simp at hx
    rw [newU_other (by omega), upd_other _ _ (by omega)]

theorem newU_at : ∀ {cs : List (List Cell)} {nid : Nat} {h : Nat → Option Node} {i : Nat} {c : List Cell}, cs[i]? = some c → ups h (newU nid cs) (nid + i) = some (true, c)
  | [], _, _, _, _, h => by simp at h
  | c :: cs, nid, h, 0, c', hc => by
    obtain rfl := Option.some.inj hc
    show ups (upd h nid _) (newU (nid + 1) cs) nid = _
    rw [newU_other (by omega), upd_same]
  | c :: cs, nid, h, i + 1, c', hc => by
    show ups (upd h nid _) (newU (nid + 1) cs) (nid + (i + 1)) = _
    rw [show nid + (i + 1) = nid + 1 + i by omega]
    exact newU_at (show cs[i]? = some c' from hc)

theorem ups_append (h : Nat → Option Node) (a b : Upds) : ups h (a ++ b) = ups (ups h a) b := by simp [ups]

theorem newU_ids : ∀ {cs : List (List Cell)} {nid x : Nat}, x ∈ (newU nid cs).map (·.1) ↔ nid ≤ x ∧ x < nid + cs.length
  | [], nid, x => by simp [newU] <;> omega
  | c :: cs, nid, x => by
    simp only [newU, List.map_cons, List.mem_cons, newU_ids (cs := cs), List.length_cons]; omega
end

section
open Go Go.RowKit

section

variable {k : Base} {h : Nat → Option Node} {w : World} {L : Nat → Nat × Nat} {F : Nat → List Nat} {U : Nat → Prop} {P : Program}

/-- Where the nodes lie behind the call. -/
def aftL (L : Nat → Nat × Nat) (nid : Nat) (locs : Locs) (x : Nat) : Nat × Nat :=
  if nid ≤ x then match locs[x - nid]? with | some p => p.1 | none => L x else L x

def aftF (F : Nat → List Nat) (nid : Nat) (locs : Locs) (ow : List (Option Nat)) (Fo : Nat → List Nat) (x : Nat) : List Nat :=
  if nid ≤ x then match locs[x - nid]? with
    | some p => p.2.1
    | none => if some x ∈ ow then Fo (ow.idxOf (some x)) else F x
  else if some x ∈ ow then Fo (ow.idxOf (some x)) else F x

theorem flatMap_nodup_get : ∀ {locs : Locs}, locs.blocks.Nodup → ∀ (i : Nat) p, locs[i]? = some p → p.2.2.Nodup
  | [], _, i, p, h => by simp at h
  | q :: locs, hn, 0, p, h => by
    obtain rfl := Option.some.inj h
    simp only [Locs.blocks, List.flatMap_cons] at hn
    exact (List.nodup_append.1 hn).1
  | q :: locs, hn, i + 1, p, h => by
    simp only [Locs.blocks, List.flatMap_cons] at hn
    exact flatMap_nodup_get (locs := locs) (List.nodup_append.1 hn).2.1 i p h

theorem flatMap_nodup_disj : ∀ {locs : Locs}, locs.blocks.Nodup → ∀ (i j : Nat) p q, i ≠ j → locs[i]? = some p → locs[j]? = some q → ∀ b ∈ p.2.2, b ∉ q.2.2
  | [], _, i, j, p, q, _, h, _ => by simp at h
  | x :: locs, hn, i, j, p, q, hij, hp, hq => by
    intro b hb hc
    simp only [Locs.blocks, List.flatMap_cons] at hn
    obtain ⟨n1, n2, n3⟩ := List.nodup_append.1 hn
    cases i with
    | zero =>
      obtain rfl := Option.some.inj hp
      cases j with
      | zero => exact hij rfl
      | succ j => exact n3 b hb b (List.mem_flatMap.2 ⟨q, List.mem_of_getElem? (show locs[j]? = some q from hq), hc⟩) rfl
    | succ i =>
      cases j with
      | zero =>
        obtain rfl := Option.some.inj hq
        exact n3 b hc b (List.mem_flatMap.2 ⟨p, List.mem_of_getElem? (show locs[i]? = some p from hp), hb⟩) rfl
      | succ j => exact flatMap_nodup_disj (locs := locs) n2 i j p q (fun e => hij (by rw [e])) hp hq b hb hc

theorem mem_blocks {locs : Locs} {i : Nat} {p : (Nat × Nat) × List Nat × List Nat} (hp : locs[i]? = some p) {b : Nat} (hb : b ∈ p.2.2) : b ∈ locs.blocks :=
  List.mem_flatMap.2 ⟨p, List.mem_of_getElem? hp, hb⟩

theorem idx_of {ow : List (Option Nat)} {j x : Nat} (hn : (ow.filterMap (fun x => x)).Nodup) (hj : ow[j]? = some (some x)) : ow.idxOf (some x) = j := by
  have hm : some x ∈ ow := List.mem_of_getElem? hj
  have hi : ow[ow.idxOf (some x)]? = some (some x) := by
    rw [List.getElem?_eq_getElem (List.idxOf_lt_length_iff.2 hm)]
    simp
  have uniq : ∀ (o : List (Option Nat)) (i j : Nat), (o.filterMap (fun x => x)).Nodup → o[i]? = some (some x) → o[j]? = some (some x) → i = j := by
    intro o
    induction o with
    | nil => intro i j _ h1; simp at h1
    | cons a o ih =>
      intro i j hn h1 h2
      cases i with
      | zero =>
        cases j with
        | zero => rfl
        | succ j =>
          obtain rfl := Option.some.inj h1
          exact absurd (List.mem_of_getElem? (show o[j]? = some (some x) from h2)) (not_mem_of_nodup hn)
      | succ i =>
        cases j with
        | zero =>
          obtain rfl := Option.some.inj h2
          exact absurd (List.mem_of_getElem? (show o[i]? = some (some x) from h1)) (not_mem_of_nodup hn)
        | succ j => rw [ih i j (nodup_tail hn) h1 h2]
  exact uniq ow _ _ hn hi hj

/-- The memory behind a call. -/
theorem call_end (m : Mem k h w L F U) {sn : List Nat} {ow : List (Option Nat)} {vals : List (Bool × List Cell)} {outs : List (Option (List Cell))} {xs : List Value} {G : List Nat} {Fo : Nat → List Nat} {w' : World} {nid : Nat}
    (hnd : (ow.filterMap (fun x => x)).Nodup) (how : ∀ (j x : Nat), ow[j]? = some (some x) → ∃ cs, h x = some (true, cs))
    (hfr : ∀ j, j < 16 → h (nid + j) = none ∧ ¬ U (nid + j)) (hcnt : (ownsV vals).length ≤ 16) (hpure : sn = [] ∨ pureV vals outs = true)
    (fin : FinOK (callBase k h w L F sn ow) (callL L ow) vals outs xs G Fo w') :
    ∃ L' F' U', Mem k (ups h (backU ow outs ++ newU nid (ownsV vals))) w' L' F' U' ∧ Mono k h w L F U (ups h (backU ow outs ++ newU nid (ownsV vals))) w' L' F' U' ∧
      (∀ i, U' i → U i ∨ i ∈ (backU ow outs ++ newU nid (ownsV vals)).map (·.1)) ∧
      xs.length = (placeV nid vals).length ∧ ∀ (i : Nat) x v, xs[i]? = some x → (placeV nid vals)[i]? = some v → RV (SS k (ups h (backU ow outs ++ newU nid (ownsV vals))) L' F' w') U' L' w' x v := by
  obtain ⟨locs, eG, hlocs, hplace⟩ := placeV_rep fin.res nid
  have hll := hlocs.1
  let h' := ups h (backU ow outs ++ newU nid (ownsV vals))
  let L' := aftL L nid locs
  let F' := aftF F nid locs ow Fo
  let U' : Nat → Prop := fun i => U i ∨ (nid ≤ i ∧ i < nid + (ownsV vals).length)
  have hUn : ∀ i, U i → ¬ (nid ≤ i ∧ i < nid + (ownsV vals).length) := fun i hi hc => (hfr (i - nid) (by omega)).2 (by rw [show nid + (i - nid) = i by omega]; exact hi)
  have howU : ∀ (j x : Nat), ow[j]? = some (some x) → U x := fun j x hj => by obtain ⟨cs, hc⟩ := how j x hj; exact (m.node x _ hc).1
  have hout : ∀ x, ¬ (nid ≤ x ∧ x < nid + (ownsV vals).length) → h' x = ups h (backU ow outs) x := fun x hx => by
    show ups h (backU ow outs ++ newU nid (ownsV vals)) x = _
    rw [ups_append, newU_other (by omega)]
  have hnew : ∀ i c, (ownsV vals)[i]? = some c → h' (nid + i) = some (true, c) := fun i c hc => by
    show ups h (backU ow outs ++ newU nid (ownsV vals)) (nid + i) = _
    rw [ups_append]; exact newU_at hc
  have hsame : ∀ x, ¬ (nid ≤ x ∧ x < nid + (ownsV vals).length) → some x ∉ ow → h' x = h x := fun x hx hm => by rw [hout x hx, backU_other hm]
  have hback : ∀ j x, ow[j]? = some (some x) → h' x = (outs[j]?).join.map fun c => (true, c) := fun j x hj => by rw [hout x (hUn x (howU j x hj)), backU_at hnd hj]
  have eL : ∀ x, ¬ (nid ≤ x ∧ x < nid + (ownsV vals).length) → L' x = L x := fun x hx => by
    show aftL L nid locs x = L x
    unfold aftL
    split
    · rw [List.getElem?_eq_none (by omega)]
    · rfl
  have eLn : ∀ (i : Nat) p, locs[i]? = some p → L' (nid + i) = p.1 := fun i p hp => by
    show aftL L nid locs (nid + i) = p.1
    unfold aftL
    rw [if_pos (by omega), show nid + i - nid = i by omega, hp]
  have eFn : ∀ (i : Nat) p, locs[i]? = some p → F' (nid + i) = p.2.1 := fun i p hp => by
    show aftF F nid locs ow Fo (nid + i) = p.2.1
    unfold aftF
    rw [if_pos (by omega), show nid + i - nid = i by omega, hp]
  have eF0 : ∀ x, ¬ (nid ≤ x ∧ x < nid + (ownsV vals).length) → F' x = if some x ∈ ow then Fo (ow.idxOf (some x)) else F x := fun x hx => by
    show aftF F nid locs ow Fo x = _
    unfold aftF
    split
    · rw [List.getElem?_eq_none (by omega)]
    · rfl
  have eF : ∀ x, ¬ (nid ≤ x ∧ x < nid + (ownsV vals).length) → some x ∉ ow → F' x = F x := fun x hx hm => by rw [eF0 x hx, if_neg hm]
  have eFb : ∀ j x, ow[j]? = some (some x) → F' x = Fo j := fun j x hj => by rw [eF0 x (hUn x (howU j x hj)), if_pos (List.mem_of_getElem? hj), idx_of hnd hj]
  have cL : ∀ j x, ow[j]? = some (some x) → callL L ow j = L x := fun j x hj => by simp [callL, hj]
  -- what is owned behind the call
  have own : ∀ x, Own h' L' F' x = [] ∨ (∃ (i : Nat) (p : (Nat × Nat) × List Nat × List Nat), x = nid + i ∧ locs[i]? = some p ∧ Own h' L' F' x = p.2.2) ∨ (∃ (j : Nat) (c : List Cell), ow[j]? = some (some x) ∧ outs[j]? = some (some c) ∧ Own h' L' F' x = OutOwn (callL L ow) Fo outs j) ∨
      (¬ (nid ≤ x ∧ x < nid + (ownsV vals).length) ∧ some x ∉ ow ∧ Own h' L' F' x = Own h L F x) := by
    intro x
    by_cases hx : nid ≤ x ∧ x < nid + (ownsV vals).length
    · have hi : x - nid < (ownsV vals).length := by omega
      have hp : locs[x - nid]? = some (locs[x - nid]'(by omega)) := List.getElem?_eq_getElem _
      have hc : (ownsV vals)[x - nid]? = some ((ownsV vals)[x - nid]) := List.getElem?_eq_getElem hi
      have h1 := hnew _ _ hc
      have h2 := eLn _ _ hp
      have h3 := eFn _ _ hp
      have ex : nid + (x - nid) = x := by omega
      rw [ex] at h1 h2 h3
      exact .inr (.inl ⟨x - nid, _, ex.symm, hp, by rw [own_of h1, h2, h3]; exact (hlocs.2 _ _ _ hp hc).elim fun vs q => q.2.2.2.2.symm⟩)
    · by_cases hm : some x ∈ ow
      · obtain ⟨j, hj⟩ := List.getElem?_of_mem hm
        have hb := hback j x hj
        cases ho : outs[j]? with
        | none => left; rw [ho] at hb; simp at hb; simp [Own, hb]
        | some o =>
          cases o with
          | none => left; rw [ho] at hb; simp at hb; simp [Own, hb]
          | some c =>
            rw [ho] at hb
            simp at hb
            refine .inr (.inr (.inl ⟨j, c, hj, ho, ?_⟩))
            rw [own_of hb, eL x hx, eFb j x hj]
            simp [OutOwn, ho, cL j x hj]
      · refine .inr (.inr (.inr ⟨hx, hm, ?_⟩))
        simp only [Own, hsame x hx hm, eL x hx, eF x hx hm]
  have outJ : ∀ {x j c}, ow[j]? = some (some x) → outs[j]? = some (some c) → ∀ b ∈ OutOwn (callL L ow) Fo outs j, b ∉ G := fun {x j c} _ _ b hb => fin.disjG j b hb
  have inB0 : ∀ {b}, b ∈ (callBase k h w L F sn ow).B0 → ∃ (j id : Nat), ow[j]? = some (some id) ∧ b ∈ Own h L F id := by
    intro b hb
    obtain ⟨id, h1, h2⟩ := List.mem_flatMap.1 hb
    obtain ⟨o, h3, h4⟩ := List.mem_filterMap.1 h1
    obtain ⟨j, hj⟩ := List.getElem?_of_mem h3
    exact ⟨j, id, by rw [hj, ← h4]; rfl, h2⟩
  -- a block that comes back is owned by none of the others
  have keepO : ∀ x, some x ∉ ow → ∀ b ∈ Own h L F x, (w.heap.size ≤ b ∨ b ∈ (callBase k h w L F sn ow).B0) → False := fun x hx b hb hc => by
    rcases hc with hc | hc
    · have := Own.lt m hb; omega
    · obtain ⟨j, id, h1, h2⟩ := inB0 hc
      by_cases e : x = id
      · subst e; exact hx (List.mem_of_getElem? h1)
      · exact m.disj x id e b hb h2
  have hown : ∀ x, ∀ b ∈ Own h' L' F' x, (∃ j, b ∈ Own h L F j) ∨ w.heap.size ≤ b := by
    intro x b hb
    have conv : (w.heap.size ≤ b ∨ b ∈ (callBase k h w L F sn ow).B0) → (∃ j, b ∈ Own h L F j) ∨ w.heap.size ≤ b := fun hc => by
      rcases hc with hc | hc
      · exact .inr hc
      · obtain ⟨_, id, _, h2⟩ := inB0 hc; exact .inl ⟨id, h2⟩
    rcases own x with e | ⟨i, p, _, hp, e⟩ | ⟨j, c, h1, h2, e⟩ | ⟨_, _, e⟩
    · rw [e] at hb; cases hb
    · rw [e] at hb; exact conv (fin.inG b (by rw [eG]; exact mem_blocks hp hb))
    · rw [e] at hb; exact conv (fin.inO j b hb)
    · rw [e] at hb; exact .inl ⟨x, hb⟩
  have hnG : locs.blocks.Nodup := by rw [← eG]; exact fin.nodup
  have nodup : ∀ x, (Own h' L' F' x).Nodup := by
    intro x
    rcases own x with e | ⟨i, p, _, hp, e⟩ | ⟨j, c, h1, h2, e⟩ | ⟨_, _, e⟩
    · rw [e]; simp
    · rw [e]; exact flatMap_nodup_get hnG i p hp
    · rw [e]; exact fin.nodupO j
    · rw [e]; exact m.nodup x
  have disj : ∀ x y, x ≠ y → ∀ b ∈ Own h' L' F' x, b ∉ Own h' L' F' y := by
    intro x y hxy b hb hc
    rcases own x with e | ⟨i, p, ex, hp, e⟩ | ⟨j, c, h1, h2, e⟩ | ⟨_, hx2, e⟩
    · rw [e] at hb; cases hb
    · rw [e] at hb
      have hbG : b ∈ G := by rw [eG]; exact mem_blocks hp hb
      rcases own y with e' | ⟨i', p', ey, hp', e'⟩ | ⟨j', c', h1', h2', e'⟩ | ⟨_, hy2, e'⟩
      · rw [e'] at hc; cases hc
      · rw [e'] at hc; exact flatMap_nodup_disj hnG i i' p p' (fun q => hxy (by rw [ex, ey, q])) hp hp' b hb hc
      · rw [e'] at hc; exact fin.disjG j' b hc hbG
      · rw [e'] at hc; exact keepO y hy2 b hc (fin.inG b hbG)
    · rw [e] at hb
      rcases own y with e' | ⟨i', p', ey, hp', e'⟩ | ⟨j', c', h1', h2', e'⟩ | ⟨_, hy2, e'⟩
      · rw [e'] at hc; cases hc
      · rw [e'] at hc; exact fin.disjG j b hb (by rw [eG]; exact mem_blocks hp' hc)
      · rw [e'] at hc
        exact fin.disj j j' (fun q => hxy (by subst q; rw [h1] at h1'; exact Option.some.inj (Option.some.inj h1'))) b hb hc
      · rw [e'] at hc; exact keepO y hy2 b hc (fin.inO j b hb)
    · rw [e] at hb
      rcases own y with e' | ⟨i', p', ey, hp', e'⟩ | ⟨j', c', h1', h2', e'⟩ | ⟨_, hy2, e'⟩
      · rw [e'] at hc; cases hc
      · rw [e'] at hc; exact keepO x hx2 b hb (fin.inG b (by rw [eG]; exact mem_blocks hp' hc))
      · rw [e'] at hc; exact keepO x hx2 b hb (fin.inO j' b hc)
      · rw [e'] at hc; exact m.disj x y hxy b hb hc
  have hUL : ∀ i, U i → U' i ∧ L' i = L i := fun i hi => ⟨.inl hi, eL i (hUn i hi)⟩
  have hat : LocsAt nid locs U' L' := fun i p hp => ⟨.inr ⟨by omega, by have := (List.getElem?_eq_some_iff.1 hp).1; omega⟩, eLn i p hp⟩
  have hfin : ∀ b, sn = [] → FinS (callBase k h w L F sn ow) (callL L ow) outs G Fo w' b → SS k h' L' F' w' b := by
    intro b hsn hb
    refine ⟨?_, hb.2.1, fun x hx => ?_⟩
    · rcases hb.1 with h1 | h1 | h1
      · rcases h1 with h1 | ⟨id, hid, _⟩
        · exact h1.1
        · rw [hsn] at hid; cases hid
      · obtain ⟨_, id, _, h2⟩ := inB0 h1
        exact (m.inB id b h2).elim (fun q => .inr (.inr q)) (fun q => .inr (.inl q))
      · exact .inr (.inr (Nat.le_trans m.grows.1 h1))
    · rcases own x with e | ⟨i, p, _, hp, e⟩ | ⟨j, c, h1, h2, e⟩ | ⟨_, hx2, e⟩
      · rw [e] at hx; cases hx
      · rw [e] at hx; exact hb.2.2.1 (by rw [eG]; exact mem_blocks hp hx)
      · rw [e] at hx; exact hb.2.2.2 j hx
      · rw [e] at hx
        rcases hb.1 with h1 | h1 | h1
        · rcases h1 with h1 | ⟨id, hid, _⟩
          · exact h1.2.2 x hx
          · rw [hsn] at hid; cases hid
        · exact keepO x hx2 b hx (.inr h1)
        · exact keepO x hx2 b hx (.inl h1)
  obtain ⟨m', mo⟩ := m.master (h' := h') (w' := w') (L' := L') (F' := F') (U' := U') fin.grows fin.os fin.tape fin.output hown nodup disj
    (fun b hb hn => fin.frame b hb (fun hc => by obtain ⟨_, id, _, h2⟩ := inB0 hc; exact hn id h2)) hUL
    (fun mo x nd hx => by
      by_cases hxn : nid ≤ x ∧ x < nid + (ownsV vals).length
      · have hi : x - nid < (ownsV vals).length := by omega
        have hp : locs[x - nid]? = some (locs[x - nid]'(by omega)) := List.getElem?_eq_getElem _
        have hc : (ownsV vals)[x - nid]? = some ((ownsV vals)[x - nid]) := List.getElem?_eq_getElem hi
        have ex : nid + (x - nid) = x := by omega
        have h1 := hnew _ _ hc
        have h2 := eLn _ _ hp
        have h3 := eFn _ _ hp
        rw [ex] at h1 h2 h3
        rw [h1] at hx
        obtain rfl := Option.some.inj hx
        obtain ⟨vs, q1, q2, q3, q4, _⟩ := hlocs.2 _ _ _ hp hc
        rw [h2, h3]
        refine ⟨.inr hxn, vs, q1, ?_, q3, fun e => by cases e⟩
        rcases hpure with hsn | hpu
        · exact (rep_sub q2 (fun b => hfin b hsn)).free q4
        · have hall : ∀ (vs : List (Bool × List Cell)) (c : List Cell), vs.all (fun p => pureL p.2) = true → c ∈ ownsV vs → pureL c = true := by
            intro vs c
            induction vs with
            | nil => intro _ hm; cases hm
            | cons v vs ih =>
              intro ha hm
              simp only [List.all_cons, Bool.and_eq_true] at ha
              rcases List.mem_append.1 hm with hm | hm
              · have hl : ∀ (l : List Cell), pureL l = true → c ∈ ownsL l → pureL c = true := by
                  intro l
                  induction l with
                  | nil => intro _ hm; cases hm
                  | cons a l ihl =>
                    intro hp' hm'
                    simp only [pureL, Bool.and_eq_true] at hp'
                    cases a with
                    | sl o n s l' =>
                      cases o with
                      | true =>
                        rcases List.mem_cons.1 hm' with rfl | hm'
                        · simpa [Cell.pure] using hp'.1
                        · exact ihl hp'.2 hm'
                      | false => exact ihl hp'.2 hm'
                    | op l' =>
                      rcases List.mem_cons.1 hm' with rfl | hm'
                      · simpa [Cell.pure] using hp'.1
                      · exact ihl hp'.2 hm'
                    | _ => exact ihl hp'.2 hm'
                exact hl v.2 ha.1 hm
              · exact ih ha.2 hm
          have hv : vals.all (fun p => pureL p.2) = true := by unfold pureV at hpu; simp only [Bool.and_eq_true] at hpu; exact hpu.1
          exact (rep_pure q2 (hall vals _ hv (List.mem_of_getElem? hc)) _).free q4
      · by_cases hm : some x ∈ ow
        · obtain ⟨j, hj⟩ := List.getElem?_of_mem hm
          have hb := hback j x hj
          have hx' : h' x = some nd := hx
          rw [hb] at hx'
          cases ho : outs[j]? with
          | none => rw [ho] at hx'; simp at hx'
          | some o =>
            cases o with
            | none => rw [ho] at hx'; simp at hx'
            | some c =>
              rw [ho] at hx'
              simp at hx'
              subst hx'
              obtain ⟨us, q1, q2, q3, hcl⟩ := fin.back j c ho
              rw [cL j x hj] at q1 q3
              rw [eL x hxn, eFb j x hj]
              refine ⟨.inl (howU j x hj), us, q1, ?_, q3, fun e => by cases e⟩
              rcases hpure with hsn | hpu
              · exact (rep_sub q2 (fun b => hfin b hsn)).free hcl
              · have hv : pureL c = true := by
                  unfold pureV at hpu
                  simp only [Bool.and_eq_true] at hpu
                  exact List.all_eq_true.1 hpu.2 _ (List.mem_of_getElem? ho)
                exact (rep_pure q2 hv _).free hcl
        · have hx' : h' x = some nd := hx
          rw [hsame x hxn hm] at hx'
          refine m.keep mo hx' (eF x hxn hm) (fun b hb => ?_)
          exact fin.frame b (Own.lt m hb) (fun hc => keepO x hm b hb (.inr hc)))
  refine ⟨L', F', U', m', mo, fun i hi => hi.imp_right fun hc => ?_, ?_⟩
  · rw [List.map_append, List.mem_append]; right; exact newU_ids.2 hc
  · refine hplace _ U' L' ?_ hat
    rcases hpure with hsn | hpu
    · exact .inl (fun b => hfin b hsn)
    · right; unfold pureV at hpu; simp only [Bool.and_eq_true] at hpu; exact hpu.1

end
end

section
open Go Go.RowKit

section

variable {k : Base} {h : Nat → Option Node} {w : World} {L : Nat → Nat × Nat} {F : Nat → List Nat} {U : Nat → Prop} {P : Program}

theorem run_enter {f : FuncId} {args : Array Value} (hf : enterOK P f = true) : (callFunc f args).run P w = .ok (.enter f args) w := by
  unfold enterOK at hf
  split at hf
  · rename_i fn e
    simp only [Bool.and_eq_true, bne_iff_ne, ne_eq] at hf
    obtain ⟨h1, h2⟩ := hf
    cases hb : fn.body with
    | none => simp [hb] at h2
    | some c => simp [callFunc, go_sem, e, h1, hb]
  · cases hf

theorem rtv_pack {S U : Nat → Prop} {L : Nat → Nat × Nat} {w : World} {xs : List Value} {vs : List (Bool × List Cell)} (hl : xs.length = vs.length)
    (hr : ∀ (i : Nat) x v, xs[i]? = some x → vs[i]? = some v → RV S U L w x v) : RTV S U L w (packV xs) (resTV vs) := by
  match xs, vs, hl with
  | [], [], _ => exact ⟨#[], rfl, rfl, fun i y c h1 _ => by simp at h1⟩
  | [x], [(b, l)], _ => exact hr 0 x (b, l) rfl rfl
  | x :: y :: xs, v :: u :: vs, hl =>
    refine ⟨(x :: y :: xs).toArray, ?_, by simpa using hl, fun i z c h1 h2 => hr i z c (by simpa using h1) h2⟩
    simp [packV]

theorem owns_ok {ms : List Mode} {tvs : List TV} {as : List Arg} {sn : List Nat} {ow : List (Option Nat)} (he : argsT h ms tvs = some (as, sn, ow)) :
    (∀ (j x : Nat), ow[j]? = some (some x) → ∃ cs, h x = some (true, cs)) := by
  intro j x hj
  obtain ⟨l1, _, l2, get, ext⟩ := argsT_get he
  have hlt : j < ow.length := (List.getElem?_eq_some_iff.1 hj).1
  by_cases hjt : j < tvs.length
  · have ha : as[j]? = some (as[j]'(by omega)) := List.getElem?_eq_getElem _
    have hx : tvs[j]? = some (tvs[j]'hjt) := List.getElem?_eq_getElem _
    rcases get j _ _ ha hx with ⟨m, i, o, h1, h2, _⟩ | ⟨_, _, _, _, _, _, _, _, h2, _⟩
    · rw [h2] at hj
      obtain rfl := Option.some.inj hj
      obtain ⟨_, _, _, cs, _, h3, _⟩ := argT_own h1
      exact ⟨cs, h3⟩
    · rw [h2] at hj; cases hj
  · obtain ⟨id, cs, _, h2, h3, _⟩ := ext j (by omega) (by omega)
    rw [h2] at hj
    obtain rfl := Option.some.inj (Option.some.inj hj)
    exact ⟨cs, h3⟩

theorem opCall_ok {nid : Nat} {ops : Array Oper} {i : Nat} {σ : St} {o : Oper} {f : FuncId} {xs : Array Operand} {tys : Array TypeId} {ms : List Mode} {as : List Arg} {sn : List Nat} {ow : List (Option Nat)} {vals : List (Bool × List Cell)} {outs : List (Option (List Cell))}
    (ho : ops[i]? = some o) (hg : guardT ops σ.t o = some true) (hop : o.op = .call ⟨.value (.func f), xs, tys⟩) (hen : enterOK P f = true)
    (hargs : argsT σ.nd ms (xs.toList.map (evT σ.t)) = some (as, sn, ow)) (hnd : (ow.filterMap id).Nodup) (hdis : ∀ x ∈ sn, some x ∉ ow)
    (hcall : CallOK P f as vals outs) (hpure : sn = [] ∨ pureV vals outs = true) (hcnt : (ownsV vals).length ≤ 16) :
    OpOK P nid ops i σ (resTV (placeV nid vals)) (backU ow outs ++ newU nid (ownsV vals)) := by
  intro k n L0 bd τ a w Q K hrs hag hfr hK
  obtain ⟨h1, h2⟩ := hag o ho
  obtain ⟨⟨L, F, U, m, ht, hU, hn⟩, hlen, hd⟩ := hrs
  have hg' := guard_wanted ht ((guardT_congr (t := σ.t) (t' := τ.t) h1).trans hg)
  have hev := ev_congr (t := σ.t) (t' := τ.t) h1
  have hxo : ∀ x ∈ xs.toList, x ∈ o.op.operands := fun x hx => by rw [hop]; simp [Op.operands, Call.operands]; right; simpa using hx
  have hargs' : argsT τ.nd ms (xs.toList.map (evT τ.t)) = some (as, sn, ow) := by
    rw [show xs.toList.map (evT τ.t) = xs.toList.map (evT σ.t) from List.map_congr_left fun x hx => hev x (hxo x hx)]
    rw [argsT_local (h := τ.nd) (h' := σ.nd) (fun t htm j hj => ?_)]
    · exact hargs
    · obtain ⟨x, hx, rfl⟩ := List.mem_map.1 htm
      exact h2 j (by simp only [nodesR, List.mem_flatMap]; exact ⟨x, by rw [hop]; have := hxo x hx; rw [hop] at this; simpa [opN] using this, hj⟩)
  have hidf : ow.filterMap (fun x => x) = ow.filterMap id := rfl
  have hst := call_start m (xs := (xs.map a.eval).toList) hargs' hnd hdis (by simp) (fun j x t hx ht' => by
    simp only [Array.toList_map, List.getElem?_map] at hx ht'
    cases hq : xs.toList[j]? with
    | none => rw [hq] at hx; simp at hx
    | some q =>
      rw [hq] at hx ht'
      obtain rfl := Option.some.inj hx
      obtain rfl := Option.some.inj ht'
      exact evT_rtv ht q)
  obtain ⟨s1, s2⟩ := hst
  have hsz : (xs.map a.eval).size ≤ as.length ∧ (noEx as = true → (xs.map a.eval).size = as.length) := by
    have h1 := (argsT_get hargs').1
    have h2 := (argsT_get hargs').2.1
    simp at h1 h2; simp; exact ⟨h1, h2⟩
  have hc := hcall (callBase k τ.nd w L F sn ow) (callL L ow) (callF F ow) (xs.map a.eval) hsz s1 (by
    intro i; have := s2 i; show RTV (SS (callBase k τ.nd w L F sn ow) _ _ _ w) _ _ w _ _; simpa using this)
  simp only [wpOp, ho, hg', if_true]
  left
  unfold Oper.wp
  have hrun : execOp a.eval o = callFunc f (#[] ++ xs.map a.eval ++ #[]) := by
    obtain ⟨dst, op, ty, pos, after, guard⟩ := o
    simp only at hop
    subst hop
    rfl
  have hrun' : (execOp a.eval o).run P w = .ok (.enter f (xs.map a.eval)) w := by
    rw [hrun, run_enter hen]; simp
  rw [hrun', Oper.upon_enter]
  refine hc.mono fun e w' he => ?_
  obtain ⟨v, rfl, ys, G, Fo, rfl, fin⟩ := he
  have hUn : ∀ j, j < 16 → τ.nd (nid + j) = none ∧ ¬ U (nid + j) := fun j hj => ⟨(hfr j hj).1, fun hu => (hfr j hj).2 (hU _ hu)⟩
  obtain ⟨L', F', U', m', mo, hU', hl, hv⟩ := call_end m (nid := nid) hnd (owns_ok hargs') hUn hcnt hpure fin
  refine hK _ _ ?_
  rw [ho]
  exact app_rsb hlen hd ht hn m' mo (rtv_pack hl hv) (fun i hi => (hU' i hi).imp (hU i) id)

end
end

section
open Go Go.RowKit

def dstOf (ops : Array Oper) (i : Nat) : Option Nat := (ops[i]?).bind (·.dst)

abbrev PU := (TV × Upds) × Nat

def stepP (ops : Array Oper) (σ : St) (p : PU) : St := σ.app (dstOf ops p.2) p.1.1 p.1.2

def foldP (ops : Array Oper) (ps : List PU) (σ : St) : St := ps.foldl (stepP ops) σ

theorem foldP_append (ops : Array Oper) (a b : List PU) (σ : St) : foldP ops (a ++ b) σ = foldP ops b (foldP ops a σ) := by simp [foldP]

/-- All operations of a list, one behind the other. -/
def OpsOK (P : Program) (base : Option Nat) (ops : Array Oper) : List Nat → St → St → List (TV × Upds) → Prop
  | [], σ, σ', us => σ' = σ ∧ us = []
  | i :: is, σ, σ', u :: us => OpOK P (nidOf base σ i) ops i σ u.1 u.2 ∧ OpsOK P base ops is (σ.app (dstOf ops i) u.1 u.2) σ' us
  | _ :: _, _, _, [] => False

theorem opsOK_get {P : Program} {base : Option Nat} {ops : Array Oper} : ∀ {m i0 : Nat} {σ σ' : St} {us : List (TV × Upds)}, OpsOK P base ops (List.range' i0 m) σ σ' us →
    us.length = m ∧ σ' = foldP ops (us.zipIdx i0) σ ∧
    ∀ (j : Nat) (u : TV × Upds), us[j]? = some u → OpOK P (nidOf base (foldP ops ((us.zipIdx i0).take j) σ) (i0 + j)) ops (i0 + j) (foldP ops ((us.zipIdx i0).take j) σ) u.1 u.2
  | 0, i0, σ, σ', us, h => by
    obtain ⟨rfl, rfl⟩ := h
    exact ⟨rfl, rfl, fun j u hu => by simp at hu⟩
  | m + 1, i0, σ, σ', [], h => h.elim
  | m + 1, i0, σ, σ', u :: us, h => by
    obtain ⟨h1, h2⟩ := h
    obtain ⟨g1, g2, g3⟩ := opsOK_get (m := m) (i0 := i0 + 1) h2
    refine ⟨by simp [g1], by rw [g2]; simp [foldP, List.zipIdx_cons, stepP], fun j v hv => ?_⟩
    cases j with
    | zero => obtain rfl := Option.some.inj hv; exact h1
    | succ j =>
      have := g3 j v hv
      rw [show i0 + (j + 1) = i0 + 1 + j by omega]
      simpa [foldP, List.zipIdx_cons, stepP] using this

theorem statesT_get {ops : Array Oper} : ∀ {us : List (TV × Upds)} {σ : St} {i0 j : Nat} {d : St}, j < us.length → (statesT ops σ us i0).getD j d = foldP ops ((us.zipIdx i0).take j) σ
  | [], _, _, _, _, h => by simp at h
  | u :: us, σ, i0, 0, d, _ => by simp [statesT, foldP]
  | u :: us, σ, i0, j + 1, d, h => by
    have := statesT_get (ops := ops) (us := us) (σ := σ.app ((ops[i0]?).bind (·.dst)) u.1 u.2) (i0 := i0 + 1) (j := j) (d := d) (by simpa using h)
    simp only [statesT, List.getD_cons_succ, List.zipIdx_cons, List.take_succ_cons]
    rw [this]
    simp [foldP, stepP, dstOf]

/-! ### What agrees -/

theorem ups_skip {h : Nat → Option Node} {l : Upds} {x : Nat} (hx : x ∉ l.map (·.1)) : ups h l x = h x := by
  induction l generalizing h with
  | nil => rfl
  | cons p l ih =>
    simp only [List.map_cons, List.mem_cons, not_or] at hx
    show ups (upd h p.1 p.2) l x = h x
    rw [ih hx.2, upd_other _ _ hx.1]

theorem ups_congr {h h' : Nat → Option Node} {l : Upds} {x : Nat} (hx : h x = h' x) : ups h l x = ups h' l x := by
  induction l generalizing h h' with
  | nil => exact hx
  | cons p l ih =>
    show ups (upd h p.1 p.2) l x = ups (upd h' p.1 p.2) l x
    refine ih ?_
    unfold upd
    split
    · rfl
    · exact hx

theorem tv_app_ne {σ : St} {d : Option Nat} {r : TV} {l : Upds} {t : Nat} (h : d ≠ some t) : (σ.app d r l).tv t = σ.tv t := by
  rcases tv_app σ d r l t with e | ⟨e, _⟩
  · exact e
  · exact absurd e h

theorem tv_app_congr {σ τ : St} {d : Option Nat} {r : TV} {l l' : Upds} {t : Nat} (h : σ.tv t = τ.tv t) (hl : σ.t.length = τ.t.length) : (σ.app d r l).tv t = (τ.app d r l').tv t := by
  unfold St.app St.tv setT
  cases d with
  | none => exact h
  | some d =>
    show (σ.t.set d r).getD t _ = (τ.t.set d r).getD t _
    unfold St.tv at h
    simp only [List.getD_eq_getElem?_getD, List.getElem?_set] at h ⊢
    split
    · rw [hl]
    · exact h

def Wt (ops : Array Oper) (t : Nat) (p : PU) : Bool := dstOf ops p.2 == some t

def Wn (x : Nat) (p : PU) : Bool := (p.1.2.map (·.1)).contains x

theorem foldP_len (ops : Array Oper) : ∀ (ps : List PU) (σ : St), (foldP ops ps σ).t.length = σ.t.length
  | [], _ => rfl
  | p :: ps, σ => by
    show (foldP ops ps (stepP ops σ p)).t.length = _
    rw [foldP_len ops ps]; exact tv_app_len ..

theorem tv_fold (ops : Array Oper) (t : Nat) : ∀ (ps : List PU) (σ τ : St), σ.tv t = τ.tv t → σ.t.length = τ.t.length → (foldP ops ps σ).tv t = (foldP ops (ps.filter (Wt ops t)) τ).tv t
  | [], _, _, h, _ => h
  | p :: ps, σ, τ, h, hl => by
    show (foldP ops ps (stepP ops σ p)).tv t = _
    by_cases hw : Wt ops t p = true
    · rw [List.filter_cons_of_pos hw]
      show _ = (foldP ops _ (stepP ops τ p)).tv t
      exact tv_fold ops t ps _ _ (tv_app_congr h hl) (by rw [stepP, stepP, tv_app_len, tv_app_len, hl])
    · rw [List.filter_cons_of_neg hw]
      refine tv_fold ops t ps _ _ ?_ (by rw [stepP, tv_app_len, hl])
      rw [stepP, tv_app_ne (fun e => hw (by simp [Wt, e]))]
      exact h

theorem nd_fold (ops : Array Oper) (x : Nat) : ∀ (ps : List PU) (σ τ : St), σ.nd x = τ.nd x → (foldP ops ps σ).nd x = (foldP ops (ps.filter (Wn x)) τ).nd x
  | [], _, _, h => h
  | p :: ps, σ, τ, h => by
    show (foldP ops ps (stepP ops σ p)).nd x = _
    by_cases hw : Wn x p = true
    · rw [List.filter_cons_of_pos hw]
      show _ = (foldP ops _ (stepP ops τ p)).nd x
      exact nd_fold ops x ps _ _ (by rw [stepP, stepP, nd_app, nd_app]; exact ups_congr h)
    · rw [List.filter_cons_of_neg hw]
      refine nd_fold ops x ps _ _ ?_
      rw [stepP, nd_app, ups_skip (fun hc => hw (by unfold Wn; exact List.contains_iff_mem.2 hc))]
      exact h

theorem tv_fold' (ops : Array Oper) (t : Nat) {ps qs : List PU} (σ : St) (h : ps.filter (Wt ops t) = qs.filter (Wt ops t)) : (foldP ops ps σ).tv t = (foldP ops qs σ).tv t := by
  rw [tv_fold ops t ps σ σ rfl rfl, tv_fold ops t qs σ σ rfl rfl, h]

theorem nd_fold' (ops : Array Oper) (x : Nat) {ps qs : List PU} (σ : St) (h : ps.filter (Wn x) = qs.filter (Wn x)) : (foldP ops ps σ).nd x = (foldP ops qs σ).nd x := by
  rw [nd_fold ops x ps σ σ rfl, nd_fold ops x qs σ σ rfl, h]

theorem RSb.congr {k : Base} {n : Nat} {L0 : Nat → Nat × Nat} {bd bd' : Nat → Prop} {σ τ : St} {a : Act} {w : World} (h : RSb k n L0 bd σ a w) (ht : ∀ t, τ.tv t = σ.tv t) (hn : ∀ x, τ.nd x = σ.nd x) (hl : τ.t.length = σ.t.length) (hb : ∀ i, bd i → bd' i) :
    RSb k n L0 bd' τ a w := by
  obtain ⟨⟨L, F, U, m, h1, h2, h3⟩, h4, h5⟩ := h
  have e : τ.nd = σ.nd := funext hn
  exact ⟨⟨L, F, U, by rw [e]; exact m, fun i => by rw [e, ht]; exact h1 i, fun i hi => hb i (h2 i hi), h3⟩, by rw [hl]; exact h4, h5⟩

theorem app_h (σ : St) (d : Option Nat) (r : TV) (l : Upds) : σ.h.length ≤ (σ.app d r l).h.length ∧ ∀ x ∈ l.map (·.1), x < (σ.app d r l).h.length := by
  obtain ⟨h1, h2⟩ := foldl_length l σ.h
  refine ⟨h1, fun x hx => ?_⟩
  obtain ⟨p, hp, rfl⟩ := List.mem_map.1 hx
  exact h2 p hp

theorem foldP_h (ops : Array Oper) : ∀ (ps : List PU) (σ : St), σ.h.length ≤ (foldP ops ps σ).h.length ∧ ∀ p ∈ ps, ∀ x ∈ p.1.2.map (·.1), x < (foldP ops ps σ).h.length
  | [], σ => ⟨Nat.le_refl _, fun p hp => by cases hp⟩
  | p :: ps, σ => by
    obtain ⟨h1, h2⟩ := foldP_h ops ps (stepP ops σ p)
    obtain ⟨h3, h4⟩ := app_h σ (dstOf ops p.2) p.1.1 p.1.2
    refine ⟨Nat.le_trans h3 h1, fun q hq x hx => ?_⟩
    rcases List.mem_cons.1 hq with rfl | hq
    · exact Nat.lt_of_lt_of_le (h4 x hx) h1
    · exact h2 q hq x hx

section

variable {P : Program} {k : Base} {n : Nat} {L0 : Nat → Nat × Nat}

/-- The same, with steps between that the machine does not notice. -/
def RegOK (P : Program) (n : Nat) (ops : Array Oper) (is : List Nat) (σ σ' : St) : Prop :=
  ∀ (k : Base) (L0 : Nat → Nat × Nat) (a : Act) (w : World) (Q : Exit → Act → World → Prop), RS k n L0 σ a w → (∀ a' w', RS k n L0 σ' a' w' → Q .normal a' w') → wpOps P ops Q is a w

theorem reg_cons {ops : Array Oper} {i : Nat} {is : List Nat} {σ σ' : St} {r : TV} {l : Upds} (h1 : OpOK P σ.h.length ops i σ r l) (h2 : RegOK P n ops is (σ.app (dstOf ops i) r l) σ') : RegOK P n ops (i :: is) σ σ' := fun k L0 a w Q hrs hQ => by
  rw [wpOps_cons]
  refine h1 k n L0 _ σ a w Q _ hrs (fun o _ => ⟨fun _ _ => rfl, fun _ _ => rfl⟩) (fun j _ => ⟨nd_none (by show σ.h.length ≤ σ.h.length + j; omega), by show ¬ (σ.h.length + j < σ.h.length); omega⟩) (fun a' w' h' => ?_)
  refine h2 k L0 a' w' Q ?_ hQ
  obtain ⟨g1, g2⟩ := app_h σ (dstOf ops i) r l
  exact h'.congr (fun _ => rfl) (fun _ => rfl) rfl (fun x hx => hx.elim (fun q => Nat.lt_of_lt_of_le q g1) (g2 x))

end
end

end Go.Proofs.YtddikflnjloagaaGreatDoor
