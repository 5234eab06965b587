/- The T reading is sound. -/
import Derived.Test.YtacfohamlkbpjaaTv
namespace Go.Proofs.Ytacfohamlkbpjaa
open Go Go.RowKit

def exitOf : Out → Exit
  | .norm => .normal
  | .exit n => .exit n
  | .ret => .ret

def CodeOK (P : Program) (n : Nat) (c : Code) (σ : St) (out : Out) (σ' : St) : Prop :=
  ∀ (k : Base) (L0 : Nat → Nat × Nat) (a : Act) (w : World) (Q : Exit → Act → World → Prop), RS k n L0 σ a w → (∀ a' w', RS k n L0 σ' a' w' → Q (exitOf out) a' w') → c.wp P Q a w

def LoopOK (P : Program) (n : Nat) (c : Code) (σ : St) (out : Out) (σ' : St) : Prop :=
  ∃ m, ∀ (k : Base) (L0 : Nat → Nat × Nat) (a : Act) (w : World) (Q : Exit → Act → World → Prop), RS k n L0 σ a w → (∀ a' w', RS k n L0 σ' a' w' → Q (match out with | .exit n => .exit n | .ret => .ret | .norm => .normal) a' w') → out ≠ .norm → Code.rounds P c Q m a w

def Good (P : Program) : J → Prop
  | .op nid ops i σ r l => OpOK P nid ops i σ r l
  | .ops base ops is σ σ' us => OpsOK P base ops is σ σ' us
  | .code n c σ out σ' => CodeOK P n c σ out σ'
  | .loop n c σ out σ' => LoopOK P n c σ out σ' ∧ out ≠ .norm
  | .call f as vals outs => CallOK P f as vals outs

variable {P : Program} {X : FuncId → List Arg → List (Bool × List Cell) → List (Option (List Cell)) → Prop}

theorem init_ok {k : Base} {L0 : Nat → Nat × Nat} {F0 : Nat → List Nat} {as : List Arg} {vs : Array Value} {ntmps : Nat} (hsz : vs.size ≤ as.length ∧ (noEx as = true → vs.size = as.length)) (hx : (noEx as || Nat.ble as.length ntmps) = true) (m : Mem k (ndOf (as.map Arg.node)) k.w0 L0 F0 (· < as.length))
    (hv : ∀ i, RTV (SS k (ndOf (as.map Arg.node)) L0 F0 k.w0) (· < as.length) L0 k.w0 (vs.getD i undef) ((argTVs 0 as).getD i .undef)) :
    RS k as.length L0 (initS as ntmps) { tmps := vs ++ Array.replicate (ntmps - vs.size) undef, defers := [] } k.w0 := by
  have hlen : ∀ (as : List Arg) j, (argTVs j as).length = as.length := by
    intro as
    induction as with
    | nil => intro j; rfl
    | cons a as ih => intro j; simp [argTVs, ih]
  refine ⟨⟨L0, F0, (· < as.length), m, fun i => ?_, fun i hi => by show i < (as.map Arg.node).length; simpa using hi, fun i hi => ⟨hi, rfl⟩⟩, ?_, rfl⟩
  · have := hv i
    show RTV _ _ _ _ ((vs ++ Array.replicate (ntmps - vs.size) undef).getD i undef) ((argTVs 0 as ++ List.replicate (ntmps - as.length) TV.undef).getD i .undef)
    by_cases hi : i < as.length
    · rw [Array.getD_eq_getD_getElem?] at this ⊢
      rw [List.getD_eq_getElem?_getD] at this ⊢
      rw [List.getElem?_append_left (by rw [hlen]; exact hi)]
      by_cases hj : i < vs.size
      · rw [Array.getElem?_append_left hj]; exact this
      · rw [Array.getElem?_eq_none (by omega)] at this
        rw [Array.getElem?_append_right (by omega), Array.getElem?_replicate]
        split <;> exact this
    · rw [List.getD_eq_getElem?_getD, List.getElem?_append_right (by rw [hlen]; omega), List.getElem?_replicate]
      split <;> exact trivial
  · simp only [initS, List.length_append, hlen, List.length_replicate, Array.size_append, Array.size_replicate]
    cases e : noEx as with
    | true => have := hsz.2 e; omega
    | false => rw [e, Bool.false_or] at hx; have := Nat.le_of_ble_eq_true hx; omega

theorem sound (hm : P.follows .mixedOrders = true) (hX : ∀ f as vals outs, X f as vals outs → CallOK P f as vals outs) {j : J} (h : D P X j) : Good P j := by
  induction h with
  | opSkip ho hg => exact opSkip_ok ho hg
  | opEff ho hg he => exact opEff_ok ho hg he
  | opCall ho hg hop hen hargs hnd hdis _ hpure hcnt ih => exact opCall_ok ho hg hop hen hargs hnd hdis ih hpure hcnt
  | opsNil => exact ⟨rfl, rfl⟩
  | opsCons _ _ ih1 ih2 => exact ⟨ih1, ih2⟩
  | skip => exact fun k L0 a w Q hrs hQ => wp_skip (hQ _ _ hrs)
  | ret => exact fun k L0 a w Q hrs hQ => wp_ret (hQ _ _ hrs)
  | exit => exact fun k L0 a w Q hrs hQ => wp_exit (hQ _ _ hrs)
  | region _ ih => exact fun k L0 a w Q hrs hQ => wp_region (ops_text hQ ih hrs)
  | @draws n id ops σ σ' us depth _ ho hi ha ih =>
    intro k L0 a w Q hrs hQ
    have ih' : OpsOK P (some σ.h.length) ops (List.range' 0 ops.size) σ σ' us := by rw [← List.range_eq_range']; exact ih
    obtain ⟨g1, g2, g3⟩ := opsOK_get ih'
    have hany : AnyOK P ops σ us depth := ⟨g1, fun j u hu => by have := g3 j u hu; rw [Nat.zero_add] at this; exact this, ho, hi, ha⟩
    refine wp_region_any hm (ops_any hany (by rw [← g2]; exact hQ) _ _ _ _ (by simp) ?_ ?_ ?_)
    · intro i o e _ _ _ hl
      simp [Array.getD_eq_getD_getElem?, Array.getElem?_replicate] at hl
      split at hl <;> cases hl
    · rw [List.filter_eq_self.2 (fun i hi => by simp [Array.getD_eq_getD_getElem?, Array.getElem?_replicate]; split <;> rfl)]; simp
    · have e : us.zipIdx.filter (lst (Array.replicate ops.size false)) = [] := List.filter_eq_nil_iff.2 fun p _ => by
        simp [lst, Array.getD_eq_getD_getElem?, Array.getElem?_replicate]; split <;> simp
      obtain ⟨⟨L, F, U, m, h1, h2, h3⟩, h4, h5⟩ := hrs
      obtain ⟨m', mo⟩ := m.same (w' := { w with drawn := w.drawn + 1 }) rfl rfl rfl rfl
      refine ⟨⟨L, F, U, ?_, fun i => ?_, fun i hi => .inl (h2 i hi), h3⟩, ?_, h5⟩
      · unfold tau; rw [e]; exact m'
      · unfold tau; rw [e]; exact mo.rtv (h1 i)
      · unfold tau; rw [e]; exact h4
  | seq _ _ ih1 ih2 => exact fun k L0 a w Q hrs hQ => wp_seq (ih1 k L0 a w _ hrs fun a' w' h' => ih2 k L0 a' w' Q h' hQ)
  | @seqOut n a b σ out σ' _ hne ih =>
    intro k L0 a w Q hrs hQ
    refine wp_seq (ih k L0 a w _ hrs fun a' w' h' => ?_)
    have := hQ a' w' h'
    cases out with
    | norm => exact absurd rfl hne
    | exit m => exact this
    | ret => exact this
  | @cond n c a b σ t out σ' hc _ ih =>
    intro k L0 a w Q hrs hQ
    obtain ⟨L, F, U, m, ht, _, _⟩ := hrs.ex
    have := evT_rtv ht c
    rw [hc] at this
    have hv : ∃ G : List Nat, Rep (SS k σ.nd L F w) U L w [a.eval c] [.prim (.bool t)] G := ⟨_, this⟩
    obtain ⟨G, hv⟩ := hv
    generalize hq : a.eval c = q at hv
    cases hv with
    | prim _ _ => exact wp_cond hq (ih k L0 a w Q hrs hQ)
  | @block n id c σ out σ' _ ih =>
    intro k L0 a w Q hrs hQ
    refine wp_block (ih k L0 a w _ hrs fun a' w' h' => ?_)
    have := hQ a' w' h'
    cases out with
    | norm => exact this
    | ret => exact this
    | exit m =>
      show if m = id then _ else _
      simp only [outBlock] at this
      split
      · rename_i e; rw [if_pos e] at this; exact this
      · rename_i e; rw [if_neg e] at this; exact this
  | @loop n c σ out σ' _ ih =>
    obtain ⟨⟨m, ih⟩, hne⟩ := ih
    intro k L0 a w Q hrs hQ
    refine wp_loop_rounds m (ih k L0 a w Q hrs (fun a' w' h' => ?_) hne)
    have := hQ a' w' h'
    cases out <;> exact this
  | @loopGo n c σ σ' out σ'' _ _ ih1 ih2 =>
    obtain ⟨⟨m, ih2⟩, hne⟩ := ih2
    refine ⟨⟨m + 1, fun k L0 a w Q hrs hQ _ => ?_⟩, hne⟩
    rw [rounds_succ]
    exact ih1 k L0 a w _ hrs fun a' w' h' => ih2 k L0 a' w' Q h' hQ hne
  | @loopEnd n c σ out σ' _ hne ih =>
    refine ⟨⟨1, fun k L0 a w Q hrs hQ _ => ?_⟩, hne⟩
    rw [rounds_succ]
    refine ih k L0 a w _ hrs fun a' w' h' => ?_
    have := hQ a' w' h'
    cases out with
    | norm => exact absurd rfl hne
    | exit m => exact this
    | ret => exact this
  | ghost hg _ ih => exact fun k L0 a w Q hrs hQ => ih k L0 a w Q (hg k L0 a w hrs) hQ
  | ghostL hg _ ih =>
    obtain ⟨⟨m, ih⟩, hne⟩ := ih
    exact ⟨⟨m, fun k L0 a w Q hrs hQ h => ih k L0 a w Q (hg k L0 a w hrs) hQ h⟩, hne⟩
  | ghostE _ hg ih => exact fun k L0 a w Q hrs hQ => ih k L0 a w Q hrs fun a' w' h' => hQ a' w' (hg k L0 a' w' h')
  | @call f fn c as out σ vals outs zs hf hb hex _ hout hfin ih =>
    intro k L0 F0 vs hsz m hv
    refine calls_of_wp hf hb (ih k L0 _ _ _ (init_ok hsz hex m hv) fun a' w' h' => ?_)
    obtain ⟨v, h1, h2⟩ := fin_ok (P := P) h' rfl hfin
    rcases hout with rfl | rfl
    · exact ⟨h'.defers, v, h1, v, rfl, h2⟩
    · exact ⟨h'.defers, v, h1, v, rfl, h2⟩
  | ext hx => exact hX _ _ _ _ hx

end Go.Proofs.Ytacfohamlkbpjaa
