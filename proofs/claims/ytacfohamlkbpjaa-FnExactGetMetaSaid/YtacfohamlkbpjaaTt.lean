/- A call as an operation of a region. -/
import Derived.Test.YtacfohamlkbpjaaTs
namespace Go.Proofs.Ytacfohamlkbpjaa
open Go Go.RowKit

section
variable {k : Base} {h : Nat → Option Node} {w : World} {L : Nat → Nat × Nat} {F : Nat → List Nat} {U : Nat → Prop} {P : Program}

theorem run_enter {f : FuncId} {args : Array Value} (hf : enterOK P f = true) : (callFunc f args).run P w = .ok (.enter f args) w := by
  unfold enterOK at hf
  split at hf
  · rename_i fn e
    simp only [Bool.and_eq_true, bne_iff_ne, ne_eq] at hf
    obtain ⟨h1, h2⟩ := hf
    cases hb : fn.body with
    | none => simp [hb] at h2
    | some c => simp [callFunc, go_sem, e, h1, hb]
  · cases hf

theorem rtv_pack {S U : Nat → Prop} {L : Nat → Nat × Nat} {w : World} {xs : List Value} {vs : List (Bool × List Cell)} (hl : xs.length = vs.length)
    (hr : ∀ (i : Nat) x v, xs[i]? = some x → vs[i]? = some v → RV S U L w x v) : RTV S U L w (packV xs) (resTV vs) := by
  match xs, vs, hl with
  | [], [], _ => exact ⟨#[], rfl, rfl, fun i y c h1 _ => by simp at h1⟩
  | [x], [(b, l)], _ => exact hr 0 x (b, l) rfl rfl
  | x :: y :: xs, v :: u :: vs, hl =>
    refine ⟨(x :: y :: xs).toArray, ?_, by simpa using hl, fun i z c h1 h2 => hr i z c (by simpa using h1) h2⟩
    simp [packV]

theorem fin_of {k : Base} {n : Nat} {L0 : Nat → Nat × Nat} {bd : Nat → Prop} {τ : St} {a : Act} : RSb k n L0 bd τ a w → ∃ L F U, Mem k τ.nd w L F U ∧ (∀ i, RTV (SS k τ.nd L F w) U L w (a.tmps.getD i undef) (τ.tv i)) ∧ (∀ i, U i → bd i) ∧ (∀ i, i < n → U i ∧ L i = L0 i) :=
  fun h => h.ex

theorem owns_ok {ms : List Mode} {tvs : List TV} {as : List Arg} {sn : List Nat} {ow : List (Option Nat)} (he : argsT h ms tvs = some (as, sn, ow)) :
    (∀ (j x : Nat), ow[j]? = some (some x) → ∃ cs, h x = some (true, cs)) := by
  intro j x hj
  obtain ⟨l1, _, l2, get, ext⟩ := argsT_get he
  have hlt : j < ow.length := (List.getElem?_eq_some_iff.1 hj).1
  by_cases hjt : j < tvs.length
  · have ha : as[j]? = some (as[j]'(by omega)) := List.getElem?_eq_getElem _
    have hx : tvs[j]? = some (tvs[j]'hjt) := List.getElem?_eq_getElem _
    rcases get j _ _ ha hx with ⟨m, i, o, h1, h2, _⟩ | ⟨_, _, _, _, _, _, _, _, h2, _⟩
    · rw [h2] at hj
      obtain rfl := Option.some.inj hj
      obtain ⟨_, _, _, cs, _, h3, _⟩ := argT_own h1
      exact ⟨cs, h3⟩
    · rw [h2] at hj; cases hj
  · obtain ⟨id, cs, _, h2, h3, _⟩ := ext j (by omega) (by omega)
    rw [h2] at hj
    obtain rfl := Option.some.inj (Option.some.inj hj)
    exact ⟨cs, h3⟩

theorem opCall_ok {nid : Nat} {ops : Array Oper} {i : Nat} {σ : St} {o : Oper} {f : FuncId} {xs : Array Operand} {tys : Array TypeId} {ms : List Mode} {as : List Arg} {sn : List Nat} {ow : List (Option Nat)} {vals : List (Bool × List Cell)} {outs : List (Option (List Cell))}
    (ho : ops[i]? = some o) (hg : guardT ops σ.t o = some true) (hop : o.op = .call ⟨.value (.func f), xs, tys⟩) (hen : enterOK P f = true)
    (hargs : argsT σ.nd ms (xs.toList.map (evT σ.t)) = some (as, sn, ow)) (hnd : (ow.filterMap id).Nodup) (hdis : ∀ x ∈ sn, some x ∉ ow)
    (hcall : CallOK P f as vals outs) (hpure : sn = [] ∨ pureV vals outs = true) (hcnt : (ownsV vals).length ≤ 16) :
    OpOK P nid ops i σ (resTV (placeV nid vals)) (backU ow outs ++ newU nid (ownsV vals)) := by
  intro k n L0 bd τ a w Q K hrs hag hfr hK
  obtain ⟨h1, h2⟩ := hag o ho
  obtain ⟨⟨L, F, U, m, ht, hU, hn⟩, hlen, hd⟩ := hrs
  have hg' := guard_wanted ht ((guardT_congr (t := σ.t) (t' := τ.t) h1).trans hg)
  have hev := ev_congr (t := σ.t) (t' := τ.t) h1
  have hxo : ∀ x ∈ xs.toList, x ∈ o.op.operands := fun x hx => by rw [hop]; simp [Op.operands, Call.operands]; right; simpa using hx
  have hargs' : argsT τ.nd ms (xs.toList.map (evT τ.t)) = some (as, sn, ow) := by
    rw [show xs.toList.map (evT τ.t) = xs.toList.map (evT σ.t) from List.map_congr_left fun x hx => hev x (hxo x hx)]
    rw [argsT_local (h := τ.nd) (h' := σ.nd) (fun t htm j hj => ?_)]
    · exact hargs
    · obtain ⟨x, hx, rfl⟩ := List.mem_map.1 htm
      exact h2 j (by simp only [nodesR, List.mem_flatMap]; exact ⟨x, by simpa using hxo x hx, hj⟩)
  have hidf : ow.filterMap (fun x => x) = ow.filterMap id := rfl
  have hst := call_start m (xs := (xs.map a.eval).toList) hargs' hnd hdis (by simp) (fun j x t hx ht' => by
    simp only [Array.toList_map, List.getElem?_map] at hx ht'
    cases hq : xs.toList[j]? with
    | none => rw [hq] at hx; simp at hx
    | some q =>
      rw [hq] at hx ht'
      obtain rfl := Option.some.inj hx
      obtain rfl := Option.some.inj ht'
      exact evT_rtv ht q)
  obtain ⟨s1, s2⟩ := hst
  have hsz : (xs.map a.eval).size ≤ as.length ∧ (noEx as = true → (xs.map a.eval).size = as.length) := by
    have h1 := (argsT_get hargs').1
    have h2 := (argsT_get hargs').2.1
    simp at h1 h2; simp; exact ⟨h1, h2⟩
  have hc := hcall (callBase k τ.nd w L F sn ow) (callL L ow) (callF F ow) (xs.map a.eval) hsz s1 (by
    intro i; have := s2 i; show RTV (SS (callBase k τ.nd w L F sn ow) _ _ _ w) _ _ w _ _; simpa using this)
  simp only [wpOp, ho, hg', if_true]
  left
  unfold Oper.wp
  have hrun : execOp a.eval o = callFunc f (#[] ++ xs.map a.eval ++ #[]) := by
    obtain ⟨dst, op, ty, pos, after, guard⟩ := o
    simp only at hop
    subst hop
    rfl
  have hrun' : (execOp a.eval o).run P w = .ok (.enter f (xs.map a.eval)) w := by
    rw [hrun, run_enter hen]; simp
  rw [hrun', Oper.upon_enter]
  refine hc.mono fun e w' he => ?_
  obtain ⟨v, rfl, ys, G, Fo, rfl, fin⟩ := he
  have hUn : ∀ j, j < 16 → τ.nd (nid + j) = none ∧ ¬ U (nid + j) := fun j hj => ⟨(hfr j hj).1, fun hu => (hfr j hj).2 (hU _ hu)⟩
  obtain ⟨L', F', U', m', mo, hU', hl, hv⟩ := call_end m (nid := nid) hnd (owns_ok hargs') hUn hcnt hpure fin
  refine hK _ _ ?_
  rw [ho]
  exact app_rsb hlen hd ht hn m' mo (rtv_pack hl hv) (fun i hi => (hU' i hi).imp (hU i) id)
end

end Go.Proofs.Ytacfohamlkbpjaa
