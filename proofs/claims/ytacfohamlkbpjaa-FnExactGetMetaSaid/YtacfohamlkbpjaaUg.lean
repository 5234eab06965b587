/- Code, by what it does: ways that come together. -/
import Derived.Test.YtacfohamlkbpjaaUf
namespace Go.Proofs.Ytacfohamlkbpjaa
open Go Go.RowKit

section
variable {P : Program} {X : FuncId → List Arg → List (Bool × List Cell) → List (Option (List Cell)) → Prop} {md : FuncId → List Mode}

/-- Code does something, of which `K` holds. -/
structure SW (P : Program) (X : FuncId → List Arg → List (Bool × List Cell) → List (Option (List Cell)) → Prop) (md : FuncId → List Mode) (n : Nat) (c : Code) (τ : W) (K : Out → W → Prop) : Prop where
  go : ∀ σ, Sim τ σ → ∃ out σ' τ', D P X (.code n c σ out σ') ∧ Sim τ' σ' ∧ K out τ'

theorem sw_of {n : Nat} {c : Code} {τ : W} {K : Out → W → Prop} (h : wCode P X md n c τ K) : SW P X md n c τ K := ⟨fun _ s => wCode_ok s h⟩

/-- The ways through `a` come together in the states `J`. -/
theorem sw_join {n : Nat} {a b : Code} {τ : W} {K : Out → W → Prop} {ι : Type} (J : ι → W) (h2 : ∀ j, SW P X md n b (J j) K)
    (h1 : SW P X md n a τ fun o τ' => match o with | .norm => ∃ j, WGh n τ' (J j) | .exit m => K (.exit m) τ' | .ret => K .ret τ') : SW P X md n (.seq a b) τ K := by
  refine ⟨fun σ s => ?_⟩
  obtain ⟨out, σ', τ', g1, g2, g3⟩ := h1.go σ s
  cases out with
  | norm =>
    obtain ⟨j, hg⟩ := g3
    obtain ⟨σ1, s1, hg⟩ := hg.go _ g2
    obtain ⟨out, σ'', τ'', k1, k2, k3⟩ := (h2 j).go σ1 s1
    exact ⟨_, _, _, .seq g1 (.ghost hg k1), k2, k3⟩
  | exit m => exact ⟨_, _, _, .seqOut g1 (by simp), g2, g3⟩
  | ret => exact ⟨_, _, _, .seqOut g1 (by simp), g2, g3⟩

/-- One statement, then the others. -/
theorem sw_seq {n : Nat} {a b : Code} {τ : W} {K : Out → W → Prop}
    (h1 : wCode P X md n a τ fun o τ' => match o with | .norm => ∃ τ1, WGh n τ' τ1 ∧ SW P X md n b τ1 K | .exit m => K (.exit m) τ' | .ret => K .ret τ') : SW P X md n (.seq a b) τ K := by
  refine ⟨fun σ s => ?_⟩
  obtain ⟨out, σ', τ', g1, g2, g3⟩ := wCode_ok s h1
  cases out with
  | norm =>
    obtain ⟨τ1, hg, h2⟩ := g3
    obtain ⟨σ1, s1, hg⟩ := hg.go _ g2
    obtain ⟨out, σ'', τ'', k1, k2, k3⟩ := h2.go σ1 s1
    exact ⟨_, _, _, .seq g1 (.ghost hg k1), k2, k3⟩
  | exit m => exact ⟨_, _, _, .seqOut g1 (by simp), g2, g3⟩
  | ret => exact ⟨_, _, _, .seqOut g1 (by simp), g2, g3⟩

theorem sw_block {n id : Nat} {c : Code} {τ : W} {K : Out → W → Prop} (h : SW P X md n c τ fun o τ' => match o with
    | .exit m => match Nat.beq m id with
      | true => K .norm τ'
      | false => K (.exit m) τ'
    | .norm => K .norm τ'
    | .ret => K .ret τ') : SW P X md n (.block id c) τ K := by
  refine ⟨fun σ s => ?_⟩
  obtain ⟨out, σ', τ', h1, h2, h3⟩ := h.go σ s
  refine ⟨_, _, _, .block h1, h2, ?_⟩
  cases out with
  | norm => exact h3
  | ret => exact h3
  | exit m =>
    simp only at h3
    show K (if m = id then Out.norm else Out.exit m) τ'
    cases e : Nat.beq m id with
    | true => rw [e] at h3; rw [if_pos (Nat.eq_of_beq_eq_true e)]; exact h3
    | false => rw [e] at h3; rw [if_neg (fun q => by subst q; simp at e)]; exact h3

theorem sw_loop {n : Nat} {c : Code} {τ : W} {K : Out → W → Prop} {ι : Type} (I : ι → W) (μ : ι → Nat) (i0 : ι) (hg : WGh n τ (I i0))
    (h : ∀ i, SW P X md n c (I i) fun o τ' => match o with
      | .norm => ∃ j, μ j < μ i ∧ WGh n τ' (I j)
      | .exit m => K (.exit m) τ'
      | .ret => K .ret τ') : SW P X md n (.loop c) τ K := by
  refine ⟨fun σ s => ?_⟩
  have go : ∀ (m : Nat) (i : ι) (σ : St), μ i = m → Sim (I i) σ → ∃ out σ' τ', D P X (.loop n c σ out σ') ∧ Sim τ' σ' ∧ K out τ' := by
    intro m
    induction m using Nat.strongRecOn with
    | _ m ihm =>
      intro i σ hm s
      obtain ⟨out, σ', τ', h1, h2, h3⟩ := (h i).go σ s
      cases out with
      | norm =>
        obtain ⟨j, hj, hgj⟩ := h3
        obtain ⟨σ1, g1, g2⟩ := hgj.go σ' h2
        obtain ⟨out, σ'', τ'', k1, k2, k3⟩ := ihm (μ j) (by omega) j σ1 rfl g1
        exact ⟨_, _, _, .loopGo h1 (.ghostL g2 k1), k2, k3⟩
      | exit m => exact ⟨_, _, _, .loopEnd h1 (by simp), h2, h3⟩
      | ret => exact ⟨_, _, _, .loopEnd h1 (by simp), h2, h3⟩
  obtain ⟨σ1, g1, g2⟩ := hg.go σ s
  obtain ⟨out, σ', τ', h1, h2, h3⟩ := go _ i0 σ1 rfl g1
  exact ⟨_, _, _, .loop (.ghostL g2 h1), h2, h3⟩

/-- A function, by what its code does. -/
theorem s_call {f : FuncId} {fn : Func} {c : Code} {as : List Arg} {vals : List (Bool × List Cell)} {outs : List (Option (List Cell))} (md : FuncId → List Mode) (zs : List (List Nat)) (hf : P.funcs[f]? = some fn) (hb : fn.body = some c)
    (h : SW P X md as.length c (initW as fn.ntmps) fun o τ => match o with
      | .exit _ => False
      | _ => ∃ τ1, WGh as.length τ τ1 ∧ finW P fn zs τ1 as fun v o => v = vals ∧ o = outs) (hx : (noEx as || Nat.ble as.length fn.ntmps) = true := by rfl) : D P X (.call f as vals outs) := by
  obtain ⟨out, σ', τ', h1, h2, h3⟩ := h.go _ (init_sim as fn.ntmps)
  have go : (∃ τ1, WGh as.length τ' τ1 ∧ finW P fn zs τ1 as fun v o => v = vals ∧ o = outs) → (out = .norm ∨ out = .ret) → D P X (.call f as vals outs) := by
    rintro ⟨τ1, hg, h4⟩ ho
    obtain ⟨σ1, s1, g⟩ := hg.go _ h2
    obtain ⟨v, o, h5, rfl, rfl⟩ := finW_ok s1 h4
    exact .call zs hf hb hx (.ghostE h1 g) ho h5
  cases out with
  | norm => exact go h3 (.inl rfl)
  | ret => exact go h3 (.inr rfl)
  | exit m => exact h3.elim
end

end Go.Proofs.Ytacfohamlkbpjaa
