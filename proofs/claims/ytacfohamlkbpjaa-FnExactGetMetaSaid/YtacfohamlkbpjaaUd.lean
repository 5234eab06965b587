/- .. and it is enough. -/
import Derived.Test.YtacfohamlkbpjaaUc
namespace Go.Proofs.Ytacfohamlkbpjaa
open Go Go.RowKit

section
variable {P : Program} {X : FuncId → List Arg → List (Bool × List Cell) → List (Option (List Cell)) → Prop} {md : FuncId → List Mode}

theorem Sim.evf {τ : W} {σ : St} (s : Sim τ σ) : evT σ.t = evW τ := funext s.ev
theorem Sim.ndf {τ : W} {σ : St} (s : Sim τ σ) : σ.nd = τ.nd := funext s.nd

theorem runW_ok {ops : Array Oper} {i nid : Nat} {o : Oper} {τ : W} {σ : St} {K : KT} (s : Sim τ σ) (ho : ops[i]? = some o) (hg : guardT ops σ.t o = some true) (h : runW P X md τ nid o K) :
    ∃ r l, D P X (.op nid ops i σ r l) ∧ K r l := by
  have he : ∀ {op : Op}, o.op = op → effW P τ.nd nid (evW τ) op K → ∃ r l, D P X (.op nid ops i σ r l) ∧ K r l := fun {op} e h => by
    obtain ⟨r, l, h1, h2⟩ := effW_ok h
    exact ⟨r, l, .opEff ho hg (by rw [s.evf, s.ndf, e]; exact h1), h2⟩
  unfold runW at h
  split at h
  · rename_i c hc
    split at h
    · rename_i f hf
      unfold callW at h
      split at h
      · rename_i he1
        obtain ⟨as', sn, ow, ha, h⟩ := argsW_ok h
        split at h
        · rename_i hd
          obtain ⟨hd1, hd2⟩ := of_decide_eq_true hd
          obtain ⟨as, vals, outs, rfl, h1, h2, h3, h4⟩ := h
          have h5 := fv_ok (fu_ok (fvs_ok h4))
          obtain ⟨callee, args, tys⟩ := c
          simp only at hf
          subst hf
          exact ⟨_, _, .opCall ho hg hc he1 (by rw [s.evf, s.ndf]; exact ha) hd1 hd2 h1 h2 h3, h5⟩
        · exact h.elim
      · exact h.elim
    · exact he rfl h
  · exact he rfl h

theorem wOps_ok {ops : Array Oper} {base : Option Nat} : ∀ {os : List Oper} {i : Nat} {τ : W} {σ : St} {K : W → List (TV × Upds) → Prop}, ops.toList.drop i = os → Sim τ σ → wOps P X md ops base i os τ K →
    ∃ σ' us τ', D P X (.ops base ops (List.range' i os.length) σ σ' us) ∧ Sim τ' σ' ∧ K τ' us ∧ ∀ o ∈ os, ∀ d, o.dst = some d → d < τ.tn
  | [], i, τ, σ, K, _, s, h => ⟨σ, [], τ, .opsNil, s, h, fun o ho => by cases ho⟩
  | o :: os, i, τ, σ, K, hd, s, h => by
    have hio : ops.toList[i]? = some o := by
      have := congrArg (·[0]?) hd
      simpa using this
    have ho : ops[i]? = some o := by simpa using hio
    have hd' : ops.toList.drop (i + 1) = os := by rw [← List.tail_drop, hd]; rfl
    obtain ⟨t, hh, nx, tn⟩ := τ
    have hnid : nidW base nx i = nidOf base σ i := by
      cases base with
      | none => exact s.nx.symm
      | some b => rfl
    -- behind the operation
    have next : ∀ r l, D P X (.op (nidOf base σ i) ops i σ r l) → nextW t hh nx tn o.dst K (fun τ' K' => wOps P X md ops base (i + 1) os τ' K') r l →
        ∃ σ' us τ', D P X (.ops base ops (List.range' i (o :: os).length) σ σ' us) ∧ Sim τ' σ' ∧ K τ' us ∧ ∀ o' ∈ o :: os, ∀ d, o'.dst = some d → d < tn := by
      intro r l h1 h2
      unfold nextW at h2
      rw [addK_eq, nxK_eq] at h2
      have hdst : (ops[i]?).bind (·.dst) = o.dst := by rw [ho]; rfl
      have fin : (∀ d, o.dst = some d → d < tn) → wOps P X md ops base (i + 1) os ((⟨t, hh, nx, tn⟩ : W).app o.dst r l) (fun τ' us => K τ' ((r, l) :: us)) →
          ∃ σ' us τ', D P X (.ops base ops (List.range' i (o :: os).length) σ σ' us) ∧ Sim τ' σ' ∧ K τ' us ∧ ∀ o' ∈ o :: os, ∀ d, o'.dst = some d → d < tn := fun hlt h3 => by
        obtain ⟨σ', us, τ', g1, g2, g3, g4⟩ := wOps_ok (os := os) hd' (s.app hlt r l) h3
        refine ⟨σ', (r, l) :: us, τ', ?_, g2, g3, fun o' ho' d hdo => ?_⟩
        · rw [List.length_cons, List.range'_succ]
          exact .opsCons h1 (by rw [hdst]; exact g1)
        · rcases List.mem_cons.1 ho' with rfl | ho'
          · exact hlt d hdo
          · exact g4 o' ho' d hdo
      cases hdd : o.dst with
      | none => rw [hdd] at h2 fin; exact fin (fun d hd => by cases hd) h2
      | some d =>
        rw [hdd] at h2 fin
        simp only at h2
        cases hb : Nat.blt d tn with
        | false => rw [hb] at h2; exact h2.elim
        | true =>
          rw [hb] at h2
          exact fin (fun d' hd' => by obtain rfl := Option.some.inj hd'; exact Nat.le_of_ble_eq_true hb) h2
    have run : guardT ops σ.t o = some true → (baseW base nx i fun nid => runW P X md ⟨t, hh, nx, tn⟩ nid o (nextW t hh nx tn o.dst K fun τ' K' => wOps P X md ops base (i + 1) os τ' K')) →
        ∃ σ' us τ', D P X (.ops base ops (List.range' i (o :: os).length) σ σ' us) ∧ Sim τ' σ' ∧ K τ' us ∧ ∀ o' ∈ o :: os, ∀ d, o'.dst = some d → d < tn := by
      intro hg hr
      rw [baseW_eq, hnid] at hr
      obtain ⟨r, l, h1, h2⟩ := runW_ok s ho hg hr
      exact next r l h1 h2
    unfold wOps at h
    simp only at h
    unfold guardW at h
    split at h
    · rename_i hgd
      exact run (by simp [guardT, hgd]) h
    · rename_i j want hgd
      split at h
      · rename_i d hd
        split at h
        · rename_i b hb
          have hb' : σ.t.getD d .undef = .v false [.prim (.bool b)] := (s.tv d).trans hb
          have hgt : guardT ops σ.t o = some (b == want) := by simp only [guardT, hgd, hd, hb']
          split at h
          · exact run hgt h
          · exact run hgt h
          · rename_i n1 n2
            refine next _ _ (.opSkip ho ?_) h
            rw [hgt]
            cases b <;> cases want <;> first | rfl | exact (n1 rfl rfl).elim | exact (n2 rfl rfl).elim
        · rename_i hb
          have hb' : σ.t.getD d .undef = .tup [] := (s.tv d).trans hb
          exact next _ _ (.opSkip ho (by simp only [guardT, hgd, hd, hb'])) h
        · exact h.elim
      · exact h.elim

theorem fpsW_get {ops : Array Oper} : ∀ {us : List (TV × Upds)} {τ : W} {σ : St} {i0 : Nat}, Sim τ σ → (∀ (i : Nat) (o : Oper) (d : Nat), ops[i]? = some o → o.dst = some d → d < τ.tn) →
    (fpsW ops τ us i0).length = us.length ∧ ∀ (j : Nat) u, us[j]? = some u → (fpsW ops τ us i0)[j]? = some (fpT ops (foldP ops ((us.zipIdx i0).take j) σ) (i0 + j) u)
  | [], _, _, _, _, _ => ⟨rfl, fun j u h => by simp at h⟩
  | (r, l) :: us, τ, σ, i0, s, hd => by
    have s' : Sim (τ.app (dstOf ops i0) r l) (σ.app (dstOf ops i0) r l) := s.app (fun x hx => by
      unfold dstOf at hx
      cases ho : ops[i0]? with
      | none => rw [ho] at hx; simp at hx
      | some o => rw [ho] at hx; exact hd i0 o x ho hx) r l
    obtain ⟨g1, g2⟩ := fpsW_get (us := us) (i0 := i0 + 1) s' hd
    refine ⟨by simp [fpsW, g1], fun j u hu => ?_⟩
    cases j with
    | zero =>
      obtain rfl := Option.some.inj hu
      simp only [fpsW, List.getElem?_cons_zero, fpT, Nat.add_zero, List.take_zero]
      cases ho : ops[i0]? with
      | none => rfl
      | some o =>
        simp only [nodesR, nodesW, foldP, List.foldl_nil]
        rw [s.evf]
    | succ j =>
      have := g2 j u hu
      simp only [fpsW, List.getElem?_cons_succ]
      rw [this, show i0 + 1 + j = i0 + (j + 1) by omega]
      simp [foldP, List.zipIdx_cons, stepP]

theorem fpsW_eq {ops : Array Oper} {us : List (TV × Upds)} {τ : W} {σ : St} (s : Sim τ σ) (hd : ∀ (i : Nat) (o : Oper) (d : Nat), ops[i]? = some o → o.dst = some d → d < τ.tn) : fpsT ops σ us = fpsW ops τ us 0 := by
  obtain ⟨g1, g2⟩ := fpsW_get (us := us) (i0 := 0) s hd
  refine List.ext_getElem? fun j => ?_
  by_cases hj : j < us.length
  · have hu : us[j]? = some us[j] := List.getElem?_eq_getElem hj
    rw [g2 j _ hu]
    have h1 := fps_get (ops := ops) (σ := σ) hu ⟨[], [], [], []⟩
    have hl : j < (fpsT ops σ us).length := by simp [fpsT, hj]
    rw [List.getD_eq_getElem?_getD, List.getElem?_eq_getElem hl] at h1
    rw [List.getElem?_eq_getElem hl, Nat.zero_add]
    simpa using h1
  · rw [List.getElem?_eq_none (by simp [fpsT]; omega), List.getElem?_eq_none (by rw [g1]; omega)]

theorem wCode_ok {n : Nat} : ∀ {c : Code} {τ : W} {σ : St} {K : Out → W → Prop}, Sim τ σ → wCode P X md n c τ K → ∃ out σ' τ', D P X (.code n c σ out σ') ∧ Sim τ' σ' ∧ K out τ' := by
  intro c
  induction c with
  | skip => intro τ σ K s h; exact ⟨_, _, _, .skip, s, h⟩
  | ret => intro τ σ K s h; exact ⟨_, _, _, .ret, s, h⟩
  | exit m => intro τ σ K s h; exact ⟨_, _, _, .exit, s, h⟩
  | region id ops draw =>
    intro τ σ K s h
    unfold wCode at h
    have hr : List.range ops.size = List.range' 0 ops.toList.length := by rw [List.range_eq_range']; simp
    cases draw with
    | false =>
      obtain ⟨σ', us, τ', h1, h2, h3, _⟩ := wOps_ok (os := ops.toList) (i := 0) (by simp) s h
      exact ⟨_, _, _, .region (by rw [hr]; exact h1), h2, h3⟩
    | true =>
      obtain ⟨σ', us, τ', h1, h2, ⟨⟨h3, h4, h5⟩, h6⟩, h7⟩ := wOps_ok (os := ops.toList) (i := 0) (by simp) s h
      refine ⟨_, _, _, .draws ops.size (by rw [hr, s.nx]; exact h1) ?_ (by rw [s.nx]; exact h4) h5, h2, h6⟩
      rw [fpsW_eq s (fun i o d ho hd => h7 o (by have := Array.mem_of_getElem? ho; simpa using this) d hd)]
      exact h3
  | seq a b iha ihb =>
    intro τ σ K s h
    obtain ⟨out, σ', τ', h1, h2, h3⟩ := iha s h
    cases out with
    | norm =>
      obtain ⟨τ1, hg, h3⟩ := h3
      obtain ⟨σ1, s1, hg⟩ := hg.go _ h2
      obtain ⟨out, σ'', τ'', g1, g2, g3⟩ := ihb s1 h3
      exact ⟨_, _, _, .seq h1 (.ghost hg g1), g2, g3⟩
    | exit m => exact ⟨_, _, _, .seqOut h1 (by simp), h2, h3⟩
    | ret => exact ⟨_, _, _, .seqOut h1 (by simp), h2, h3⟩
  | cond c a b iha ihb =>
    intro τ σ K s h
    unfold wCode at h
    split at h
    · rename_i t e
      have e' : evT σ.t c = .v false [.prim (.bool t)] := by rw [s.evf]; exact e
      cases t with
      | true =>
        obtain ⟨out, σ', τ', h1, h2, h3⟩ := iha s h
        exact ⟨_, _, _, .cond e' h1, h2, h3⟩
      | false =>
        obtain ⟨out, σ', τ', h1, h2, h3⟩ := ihb s h
        exact ⟨_, _, _, .cond e' h1, h2, h3⟩
    · exact h.elim
  | block id c ih =>
    intro τ σ K s h
    obtain ⟨out, σ', τ', h1, h2, h3⟩ := ih s h
    refine ⟨_, _, _, .block h1, h2, ?_⟩
    cases out with
    | norm => exact h3
    | ret => exact h3
    | exit m =>
      simp only at h3
      show K (if m = id then Out.norm else Out.exit m) τ'
      cases e : Nat.beq m id with
      | true => rw [e] at h3; rw [if_pos (Nat.eq_of_beq_eq_true e)]; exact h3
      | false => rw [e] at h3; rw [if_neg (fun q => by subst q; simp at e)]; exact h3
  | loop c ih =>
    intro τ σ K s h
    obtain ⟨ι, I, μ, i0, hg, hI⟩ := h
    have go : ∀ (m : Nat) (i : ι) (σ : St), μ i = m → Sim (I i) σ → ∃ out σ' τ', D P X (.loop n c σ out σ') ∧ Sim τ' σ' ∧ K out τ' := by
      intro m
      induction m using Nat.strongRecOn with
      | _ m ihm =>
        intro i σ hm s
        obtain ⟨out, σ', τ', h1, h2, h3⟩ := ih s (hI i)
        cases out with
        | norm =>
          obtain ⟨j, hj, hgj⟩ := h3
          obtain ⟨σ1, g1, g2⟩ := hgj.go σ' h2
          obtain ⟨out, σ'', τ'', k1, k2, k3⟩ := ihm (μ j) (by omega) j σ1 rfl g1
          exact ⟨_, _, _, .loopGo h1 (.ghostL g2 k1), k2, k3⟩
        | exit m => exact ⟨_, _, _, .loopEnd h1 (by simp), h2, h3⟩
        | ret => exact ⟨_, _, _, .loopEnd h1 (by simp), h2, h3⟩
    obtain ⟨σ1, g1, g2⟩ := hg.go σ s
    obtain ⟨out, σ', τ', h1, h2, h3⟩ := go _ i0 σ1 rfl g1
    exact ⟨_, _, _, .loop (.ghostL g2 h1), h2, h3⟩
  | _ => intro τ σ K s h; exact h.elim

end

end Go.Proofs.Ytacfohamlkbpjaa
