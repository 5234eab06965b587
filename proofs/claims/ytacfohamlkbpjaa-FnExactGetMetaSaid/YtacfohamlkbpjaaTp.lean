/- The end of a call: its results, and what was handed in and comes back. -/
import Derived.Test.YtacfohamlkbpjaaTo
namespace Go.Proofs.Ytacfohamlkbpjaa
open Go Go.RowKit

abbrev noU : Nat → Prop := fun _ => False
abbrev noL : Nat → Nat × Nat := fun _ => (0, 0)

/-- How a result stands for its cells; `G`: the blocks that it brings. -/
def RVo (S : Nat → Prop) (w : World) (x : Value) : Bool × List Cell → List Nat → Prop
  | (false, l), G => Rep S noU noL w [x] l G
  | (true, l), G => ∃ vs : Array Value, x = .agg vs ∧ Rep S noU noL w vs.toList l G

def RVs (S : Nat → Prop) (w : World) : List Value → List (Bool × List Cell) → List Nat → Prop
  | [], [], G => G = []
  | x :: xs, v :: vs, G => ∃ G1 G2, G = G1 ++ G2 ∧ RVo S w x v G1 ∧ RVs S w xs vs G2
  | _, _, _ => False

def packV (xs : List Value) : Value := if h : xs.length = 1 then xs[0] else .tuple xs.toArray

/-- The blocks of what comes back, by the place of the argument. -/
def OutOwn (L0 : Nat → Nat × Nat) (Fo : Nat → List Nat) (outs : List (Option (List Cell))) (j : Nat) : List Nat :=
  match outs[j]? with
  | some (some c) => OB (L0 j).1 (Fo j) c
  | _ => []

def FinS (k : Base) (L0 : Nat → Nat × Nat) (outs : List (Option (List Cell))) (G : List Nat) (Fo : Nat → List Nat) (w' : World) (b : Nat) : Prop :=
  (k.S0 b ∨ b ∈ k.B0 ∨ k.w0.heap.size ≤ b) ∧ b < w'.heap.size ∧ b ∉ G ∧ ∀ j, b ∉ OutOwn L0 Fo outs j

structure FinOK (k : Base) (L0 : Nat → Nat × Nat) (vals : List (Bool × List Cell)) (outs : List (Option (List Cell))) (xs : List Value) (G : List Nat) (Fo : Nat → List Nat) (w' : World) : Prop where
  res : RVs (FinS k L0 outs G Fo w') w' xs vals G
  back : ∀ j cs, outs[j]? = some (some cs) → ∃ us, w'.rangeAt (L0 j).1 (L0 j).2 us ∧ Rep (FinS k L0 outs G Fo w') noU noL w' us cs (Fo j) ∧ (cs ≠ [] → Wr w' (L0 j).1 ((L0 j).2 + us.length)) ∧ closedL cs = true
  nodup : G.Nodup
  nodupO : ∀ j, (OutOwn L0 Fo outs j).Nodup
  disjG : ∀ j, ∀ b ∈ OutOwn L0 Fo outs j, b ∉ G
  disj : ∀ i j, i ≠ j → ∀ b ∈ OutOwn L0 Fo outs i, b ∉ OutOwn L0 Fo outs j
  inG : ∀ b ∈ G, k.w0.heap.size ≤ b ∨ b ∈ k.B0
  inO : ∀ j, ∀ b ∈ OutOwn L0 Fo outs j, k.w0.heap.size ≤ b ∨ b ∈ k.B0
  frame : ∀ b, b < k.w0.heap.size → b ∉ k.B0 → w'.heap[b]? = k.w0.heap[b]?
  os : w'.os = k.w0.os
  tape : w'.tape = k.w0.tape
  output : w'.output = k.w0.output
  grows : Grows k.w0 w'

def Fin (k : Base) (L0 : Nat → Nat × Nat) (vals : List (Bool × List Cell)) (outs : List (Option (List Cell))) (v : Value) (w' : World) : Prop :=
  ∃ xs G Fo, v = packV xs ∧ FinOK k L0 vals outs xs G Fo w'

def CallOK (P : Program) (f : FuncId) (as : List Arg) (vals : List (Bool × List Cell)) (outs : List (Option (List Cell))) : Prop :=
  ∀ (k : Base) (L0 : Nat → Nat × Nat) (F0 : Nat → List Nat) (vs : Array Value), vs.size ≤ as.length ∧ (noEx as = true → vs.size = as.length) → Mem k (ndOf (as.map Arg.node)) k.w0 L0 F0 (· < as.length) →
    (∀ i, RTV (SS k (ndOf (as.map Arg.node)) L0 F0 k.w0) (· < as.length) L0 k.w0 (vs.getD i undef) ((argTVs 0 as).getD i .undef)) →
    Calls P f vs k.w0 fun e w' => ∃ v, e = .returned v ∧ Fin k L0 vals outs v w'

section
variable {k : Base} {h : Nat → Option Node} {w : World} {L : Nat → Nat × Nat} {F : Nat → List Nat} {U : Nat → Prop} {P : Program}

theorem rep_sub {S U L w} {vs : List Value} {cs : List Cell} {G : List Nat} (r : Rep S U L w vs cs G) {S' : Nat → Prop} (hS : ∀ b, S b → S' b) : Rep S' U L w vs cs G :=
  r.carry (fun b hb => ⟨hS b hb, rfl⟩) (fun _ hi => ⟨hi, rfl⟩) (fun _ _ => rfl) (Grows.refl _)

theorem own0_only {S U L w} {x : Value} {s : Nat} {G : List Nat} (hr : Rep S U L w [x] [.sl true 0 s []] G) {Q : Value → Prop} (h : ∀ p, zp p → Q (.slice p 0 0)) : Q x := by
  cases hr with
  | own _ _ _ _ _ hz _ _ => exact absurd rfl hz
  | own0 hp _ => exact h _ hp

/-- A cell of a result, drawn out of its node. -/
theorem exC_rep (m : Mem k h w L F U) {x : Value} {c c' : Cell} {used : List Nat} {S' : Nat → Prop} (hS : ∀ b, SS k h L F w b → S' b) (hr : Rep (SS k h L F w) U L w [x] [c] []) (he : exC h c = some (c', used)) :
    Rep S' noU noL w [x] [c'] (used.flatMap (Own h L F)) := by
  unfold exC at he
  split at he
  · obtain ⟨rfl, rfl⟩ := Prod.mk.inj (Option.some.inj he)
    exact (rep_sub hr hS).free (by simp [closedL, Cell.closed])
  · obtain ⟨rfl, rfl⟩ := Prod.mk.inj (Option.some.inj he)
    exact (rep_sub hr hS).free (by simp [closedL, Cell.closed])
  · obtain ⟨rfl, rfl⟩ := Prod.mk.inj (Option.some.inj he)
    cases hr with
    | ro0 h1 hn => cases hn; exact .ro0 h1 .nil
    | ro h1 h2 h3 h4 hc h5 hn => cases hn; exact .ro (fun hl => hS _ (h1 hl)) h2 h3 h4 hc ((rep_sub h5 hS).free hc) .nil
  · obtain ⟨rfl, rfl⟩ := Prod.mk.inj (Option.some.inj he)
    rename_i s; exact own0_only hr (Q := fun x => Rep S' noU noL w [x] [.sl true 0 s []] (List.flatMap (Own h L F) [])) (fun p hp => .own0 hp .nil)
  · rename_i id off n s
    split at he
    · rename_i cs hid
      split at he
      · rename_i hc
        obtain ⟨rfl, rfl⟩ := Prod.mk.inj (Option.some.inj he)
        obtain ⟨rfl, hl, hsz, hs⟩ := hc
        obtain ⟨_, us, g1, g2, g3, _⟩ := m.node id _ hid
        simp only at g2
        have hcl := g2.closed hs
        cases hr with
        | ref0 hU hp hnil =>
          cases hnil
          obtain rfl : cs = [] := by simpa using hl
          have := @Rep.own0 S' noU noL w _ s [] [] [] hp .nil
          simpa [own_of hid, OB] using this
        | ref hU hW hn hz hnil =>
          cases hnil
          have hne : cs ≠ [] := fun e => by
            rw [e] at hl
            rcases Nat.mul_eq_zero.1 (show n * s = 0 from hl.symm) with q | q
            · exact hz q
            · exact hsz q
          have := @Rep.own S' noU noL w (L id).1 ((L id).2 + 0) n _ s cs us (F id) [] [] [] (by simpa using hW) hl hn (by simpa using g1) hcl hne ((rep_sub g2 hS).free hcl) .nil
          simpa [own_ne hid hne] using this
      · cases he
    · rename_i cs hid
      split at he
      · rename_i hc
        obtain ⟨rfl, rfl⟩ := Prod.mk.inj (Option.some.inj he)
        obtain ⟨_, us, g1, g2, g3, g4⟩ := m.node id _ hid
        obtain ⟨g5, g6⟩ := g4 rfl
        simp only at g2
        rw [g5] at g2
        have hl := g2.length
        have hsub := rep_take (n * s) (rep_drop off g2)
        have hcl := hsub.closed hc.2
        cases hr with
        | ref0 hU hp hnil =>
          cases hnil
          simpa using @ro_zero S' noU noL w _ s [] [] [] hp .nil
        | ref hU hW hn hz hnil =>
          cases hnil
          exact .ro (us := (us.drop off).take (n * s)) (fun hne => hS _ (g6 (fun e => hne (by simp only at e; rw [e]; simp)))) (by simp; omega) hn (rangeAt_take (rangeAt_drop g1 off) _) hcl ((rep_sub hsub hS).free hcl) .nil
      · cases he
    · cases he
  · cases he

theorem rep_cons {S U L w} {v : Value} {vs : List Value} {c : Cell} {cs : List Cell} {G : List Nat} (r : Rep S U L w (v :: vs) (c :: cs) G) : ∃ G1 G2, G = G1 ++ G2 ∧ Rep S U L w [v] [c] G1 ∧ Rep S U L w vs cs G2 := by
  obtain ⟨v1, v2, G1, G2, e1, e2, r1, r2⟩ := Rep.split (cs1 := [c]) (cs2 := cs) r
  have hl := r1.length
  match v1, hl with
  | [a], _ =>
    obtain ⟨rfl, rfl⟩ := List.cons.inj e1
    exact ⟨G1, G2, e2, r1, r2⟩

theorem exL_rep (m : Mem k h w L F U) {S' : Nat → Prop} (hS : ∀ b, SS k h L F w b → S' b) : ∀ {zs : List Nat} {cs cs' : List Cell} {xs : List Value} {used : List Nat}, Rep (SS k h L F w) U L w xs cs [] → exL h zs cs = some (cs', used) →
    Rep S' noU noL w xs cs' (used.flatMap (Own h L F))
  | zs, [], cs', xs, used, hr, he => by
    have he : some (([] : List Cell), ([] : List Nat)) = some (cs', used) := by cases zs <;> exact he
    obtain ⟨rfl, rfl⟩ := Prod.mk.inj (Option.some.inj he)
    have := hr.length
    obtain rfl : xs = [] := by simpa using this
    exact .nil
  | zs, c :: cs, cs', xs, used, hr, he => by
    match xs, hr with
    | [], hr => have := hr.length; simp at this
    | x :: xs, hr =>
      obtain ⟨G1, G2, e, r1, r2⟩ := rep_cons hr
      obtain ⟨rfl, rfl⟩ := List.append_eq_nil_iff.1 e.symm
      unfold exL at he
      split at he
      · rename_i e3; cases e3
      · rename_i s zs' cs0 e3
        obtain ⟨rfl, rfl⟩ := List.cons.inj e3
        split at he
        · rename_i cs'' j e2
          obtain ⟨rfl, rfl⟩ := Prod.mk.inj (Option.some.inj he)
          obtain rfl := rep_nilc r1
          exact .own0 (.inl rfl) (exL_rep m hS r2 e2)
        · cases he
      · rename_i c0 cs0 _ e3
        obtain ⟨rfl, rfl⟩ := List.cons.inj e3
        split at he
        · rename_i c' i cs'' j e1 e2
          obtain ⟨rfl, rfl⟩ := Prod.mk.inj (Option.some.inj he)
          have h1 := exC_rep m hS r1 e1
          have h2 := exL_rep m hS r2 e2
          have := h1.append h2
          simpa using this
        · cases he

theorem exV_rep (m : Mem k h w L F U) {S' : Nat → Prop} (hS : ∀ b, SS k h L F w b → S' b) : ∀ {zs : List (List Nat)} {vs vs' : List (Bool × List Cell)} {xs : List Value} {used : List Nat},
    xs.length = vs.length → (∀ (i : Nat) x v, xs[i]? = some x → vs[i]? = some v → RV (SS k h L F w) U L w x v) → exV h zs vs = some (vs', used) → RVs S' w xs vs' (used.flatMap (Own h L F))
  | zs, [], vs', xs, used, hl, hr, he => by
    obtain ⟨rfl, rfl⟩ := Prod.mk.inj (Option.some.inj he)
    obtain rfl : xs = [] := by simpa using hl
    rfl
  | zs, (b, l) :: vs, vs', xs, used, hl, hr, he => by
    unfold exV at he
    split at he
    · rename_i l' i vs'' j e1 e2
      obtain ⟨rfl, rfl⟩ := Prod.mk.inj (Option.some.inj he)
      match xs, hl with
      | x :: xs, hl =>
        have h0 := hr 0 x (b, l) rfl rfl
        refine ⟨i.flatMap (Own h L F), j.flatMap (Own h L F), by simp, ?_, exV_rep m hS (by simpa using hl) (fun i x v h1 h2 => hr (i + 1) x v h1 h2) e2⟩
        cases b with
        | false => exact exL_rep m hS h0 e1
        | true => obtain ⟨ws, rfl, h0⟩ := h0; exact ⟨ws, rfl, exL_rep m hS h0 e1⟩
    · cases he

/-- One result variable, read. -/
def resSem (tmps : Array Value) : ResultVar → Sem Value
  | .tmp t => pure (tmps.getD t undef)
  | .cell c t => do loadVar t (← asAddr (tmps.getD c undef))

theorem results_eq (fn : Func) (tmps : Array Value) : results fn tmps = (fn.results.mapM (resSem tmps) >>= fun vs => pure (if h : vs.size = 1 then vs[0] else .tuple vs)) := by
  unfold results
  congr 1

theorem resVar_run (m : Mem k h w L F U) {σ : St} {a : Act} (hσ : σ.nd = h) (ht : ∀ i, RTV (SS k h L F w) U L w (a.tmps.getD i undef) (σ.tv i)) {r : ResultVar} {v : Bool × List Cell} (he : resVarT P σ r = some v) :
    ∃ x, (resSem a.tmps r).run P w = .ok x w ∧ RV (SS k h L F w) U L w x v := by
  unfold resVarT at he
  split at he
  · rename_i t
    split at he
    · rename_i b l e
      obtain rfl := Option.some.inj he
      have := ht t
      rw [e] at this
      exact ⟨_, rfl, this⟩
    · cases he
  · rename_i c ty
    split at he
    · rename_i id off s r e hs hrw
      split at he
      · rename_i o cs hid
        split at he
        · rename_i hc
          obtain rfl := Option.some.inj he
          have hx := ht c
          rw [e] at hx
          rw [hσ] at hid
          obtain ⟨_, us, h1, h2, h3, _⟩ := m.node id _ hid
          simp only at h2
          have hl := h2.length
          show ∃ x, ((do loadVar ty (← asAddr (a.tmps.getD c undef)) : Sem Value).run P w = .ok x w) ∧ _
          generalize a.tmps.getD c undef = q at hx ⊢
          cases hx with
          | ptr hU hn =>
            cases hn
            obtain ⟨y, hy, e1, e2⟩ := run_load_t (P := P) (us := (us.drop off).take s) hs hrw hc.1 (by simp; omega) (rangeAt_take (rangeAt_drop h1 off) s)
            refine ⟨y, ?_, rv_load (rep_mid off s h2 hc.2.2) e1 e2⟩
            simpa [Instr.loadAt, Instr.sureAddr, asAddr] using hy
        · cases he
      · cases he
    · cases he

theorem resVars_run (m : Mem k h w L F U) {σ : St} {a : Act} (hσ : σ.nd = h) (ht : ∀ i, RTV (SS k h L F w) U L w (a.tmps.getD i undef) (σ.tv i)) : ∀ {rs : List ResultVar} {rv : List (Bool × List Cell)}, resVarsT P σ rs = some rv →
    ∃ xs, (rs.mapM (resSem a.tmps)).run P w = .ok xs w ∧
      xs.length = rv.length ∧ ∀ (i : Nat) x v, xs[i]? = some x → rv[i]? = some v → RV (SS k h L F w) U L w x v
  | [], rv, he => by
    obtain rfl := Option.some.inj he
    exact ⟨[], rfl, rfl, fun i x v h1 _ => by simp at h1⟩
  | r :: rs, rv, he => by
    unfold resVarsT at he
    split at he
    · rename_i v vs e1 e2
      obtain rfl := Option.some.inj he
      obtain ⟨x, h1, h2⟩ := resVar_run m hσ ht e1
      obtain ⟨xs, h3, h4, h5⟩ := resVars_run m hσ ht e2
      refine ⟨x :: xs, ?_, by simp [h4], fun i y z hy hz => ?_⟩
      · rw [List.mapM_cons]
        simp only [Sem.run_bind, h1, Result.andThen_ok, h3, Sem.run_pure]
      · cases i with
        | zero => obtain rfl := Option.some.inj hy; obtain rfl := Option.some.inj hz; exact h2
        | succ i => exact h5 i y z hy hz
    · cases he

theorem outsT_get {used : List Nat} : ∀ {as : List Arg} {j0 j : Nat} {cs : List Cell}, (outsT h used j0 as)[j]? = some (some cs) → ∃ a, as[j]? = some a ∧ outT h used (j0 + j) a = some cs
  | [], _, _, _, he => by simp [outsT] at he
  | a :: as, j0, 0, cs, he => ⟨a, rfl, by simpa [outsT] using he⟩
  | a :: as, j0, j + 1, cs, he => by
    obtain ⟨b, h1, h2⟩ := outsT_get (as := as) (j0 := j0 + 1) (j := j) (by simpa [outsT] using he)
    exact ⟨b, h1, by rw [show j0 + (j + 1) = j0 + 1 + j by omega]; exact h2⟩

theorem outT_some {used : List Nat} {j : Nat} {a : Arg} {cs : List Cell} (he : outT h used j a = some cs) : j ∉ used ∧ h j = some (true, cs) ∧ cs.all Cell.shal = true := by
  unfold outT at he
  split at he
  · cases he
  · split at he
    · cases he
    · rename_i hu
      split at he
      · rename_i cs' hj
        split at he
        · rename_i hs
          obtain rfl := Option.some.inj he
          exact ⟨by simpa using hu, hj, hs⟩
        · cases he
      · cases he

/-- THE END. -/
theorem fin_ok {n : Nat} {L0 : Nat → Nat × Nat} {fn : Func} {σ : St} {a : Act} {as : List Arg} {vals : List (Bool × List Cell)} {outs : List (Option (List Cell))} (hrs : RS k n L0 σ a w) (hn : as.length = n) {zs : List (List Nat)} (he : finT P fn zs σ as = some (vals, outs)) :
    ∃ v, (results fn a.tmps).run P w = .ok v w ∧ Fin k L0 vals outs v w := by
  obtain ⟨⟨L, F, U, m, ht, hU, hnn⟩, hlen, hd⟩ := hrs
  unfold finT at he
  split at he
  · rename_i rv hrv
    split at he
    · rename_i vs used hex
      split at he
      · rename_i hnd
        obtain ⟨rfl, rfl⟩ := Prod.mk.inj (Option.some.inj he)
        obtain ⟨xs, h1, h2, h3⟩ := resVars_run (P := P) m rfl ht hrv
        have hO : ∀ j cs, (outsT σ.nd used 0 as)[j]? = some (some cs) → j < n ∧ j ∉ used ∧ σ.nd j = some (true, cs) ∧ cs.all Cell.shal = true := fun j cs hj => by
          obtain ⟨b, g1, g2⟩ := outsT_get hj
          rw [Nat.zero_add] at g2
          exact ⟨by rw [← hn]; exact (List.getElem?_eq_some_iff.1 g1).1, outT_some g2⟩
        have hOO : ∀ j, OutOwn L0 F (outsT σ.nd used 0 as) j = [] ∨ (j < n ∧ j ∉ used ∧ OutOwn L0 F (outsT σ.nd used 0 as) j = Own σ.nd L F j) := fun j => by
          unfold OutOwn
          split
          · rename_i cs hj
            obtain ⟨g1, g2, g3, _⟩ := hO j cs hj
            exact .inr ⟨g1, g2, by rw [own_of g3, (hnn j g1).2]⟩
          · exact .inl rfl
        have hG : ∀ b, b ∈ used.flatMap (Own σ.nd L F) → ∃ i ∈ used, b ∈ Own σ.nd L F i := fun b hb => by simpa using hb
        have hS : ∀ b, SS k σ.nd L F w b → FinS k L0 (outsT σ.nd used 0 as) (used.flatMap (Own σ.nd L F)) F w b := fun b hb =>
          ⟨hb.1, hb.2.1, fun hc => by obtain ⟨i, _, hi⟩ := hG b hc; exact hb.2.2 i hi, fun j hj => by
            rcases hOO j with e | ⟨_, _, e⟩
            · rw [e] at hj; cases hj
            · rw [e] at hj; exact hb.2.2 j hj⟩
        refine ⟨packV xs, ?_, xs, used.flatMap (Own σ.nd L F), F, rfl, ⟨exV_rep m hS h2 h3 hex, fun j cs hj => ?_, ?_, fun j => ?_, fun j b hb hc => ?_, fun i j hij b hb hc => ?_, fun b hb => ?_, fun j b hb => ?_, m.frame, m.os, m.tape, m.output, m.grows⟩⟩
        · rw [results_eq, Array.mapM_eq_mapM_toList]
          simp only [Sem.run_bind, Sem.run_map, h1, Result.andThen_ok, Sem.run_pure]
          unfold packV
          by_cases hx : xs.length = 1
          · have : xs.toArray.size = 1 := by simpa using hx
            rw [dif_pos hx, dif_pos this]; simp
          · have : ¬ xs.toArray.size = 1 := by simpa using hx
            rw [dif_neg hx, dif_neg this]
        · obtain ⟨g1, g2, g3, g4⟩ := hO j cs hj
          obtain ⟨_, us, q1, q2, q3, _⟩ := m.node j _ g3
          simp only at q2
          rw [← (hnn j g1).2]
          exact ⟨us, q1, (rep_sub q2 hS).free (q2.closed g4), q3, q2.closed g4⟩
        · clear hex hOO hS hO he hG
          induction used with
          | nil => simp
          | cons i used ih =>
            have hnd' := List.nodup_cons.1 hnd
            rw [List.flatMap_cons]
            refine List.nodup_append.2 ⟨m.nodup i, ih hnd'.2, fun a ha b hb e => ?_⟩
            obtain ⟨j, hj, hb'⟩ := List.mem_flatMap.1 hb
            exact m.disj i j (fun e' => hnd'.1 (e' ▸ hj)) a ha (e ▸ hb')
        · rcases hOO j with e | ⟨_, _, e⟩
          · rw [e]; simp
          · rw [e]; exact m.nodup j
        · rcases hOO j with e | ⟨_, hu, e⟩
          · rw [e] at hb; cases hb
          · rw [e] at hb
            obtain ⟨i, hi, hi'⟩ := hG b hc
            exact m.disj j i (fun e' => hu (e' ▸ hi)) b hb hi'
        · rcases hOO i with e | ⟨_, _, e⟩
          · rw [e] at hb; cases hb
          · rcases hOO j with e' | ⟨_, _, e'⟩
            · rw [e'] at hc; cases hc
            · rw [e] at hb; rw [e'] at hc; exact m.disj i j hij b hb hc
        · obtain ⟨i, _, hi⟩ := hG b hb; exact m.inB i b hi
        · rcases hOO j with e | ⟨_, _, e⟩
          · rw [e] at hb; cases hb
          · rw [e] at hb; exact m.inB j b hb
      · cases he
    · cases he
  · cases he
end

end Go.Proofs.Ytacfohamlkbpjaa
