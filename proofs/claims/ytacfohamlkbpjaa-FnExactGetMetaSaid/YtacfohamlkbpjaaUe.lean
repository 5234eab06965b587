/- A function: its beginning and its end. -/
import Derived.Test.YtacfohamlkbpjaaUd
namespace Go.Proofs.Ytacfohamlkbpjaa
open Go Go.RowKit

def idx {α : Type} : Nat → List α → List (Nat × α)
  | _, [] => []
  | i, v :: l => (i, v) :: idx (i + 1) l

theorem look_idx {α : Type} (d : α) : ∀ (l : List α) (i0 j : Nat), i0 ≤ j → look d (idx i0 l) j = l.getD (j - i0) d
  | [], _, _, _ => by simp [idx, look]
  | v :: l, i0, j, h => by
    rw [idx, look_cons]
    by_cases e : i0 = j
    · subst e; simp
    · rw [if_neg e, look_idx d l (i0 + 1) j (by omega)]
      rw [show j - i0 = (j - (i0 + 1)) + 1 by omega, List.getD_cons_succ]

def initW (as : List Arg) (ntmps : Nat) : W := ⟨idx 0 (argTVs 0 as), idx 0 (as.map Arg.node), as.length, as.length + (ntmps - as.length)⟩

theorem argTVs_len : ∀ (as : List Arg) (j : Nat), (argTVs j as).length = as.length
  | [], _ => rfl
  | a :: as, j => by simp [argTVs, argTVs_len as]

theorem init_sim (as : List Arg) (ntmps : Nat) : Sim (initW as ntmps) (initS as ntmps) := by
  refine ⟨fun i => ?_, fun i => ?_, by simp [initW, initS], by simp [initW, initS, argTVs_len]⟩
  · show (argTVs 0 as ++ List.replicate (ntmps - as.length) TV.undef).getD i .undef = look .undef (idx 0 (argTVs 0 as)) i
    rw [look_idx _ _ _ _ (Nat.zero_le _), Nat.sub_zero]
    simp only [List.getD_eq_getElem?_getD]
    by_cases hi : i < (argTVs 0 as).length
    · rw [List.getElem?_append_left hi]
    · rw [List.getElem?_append_right (by omega), List.getElem?_replicate, List.getElem?_eq_none (by omega)]
      split <;> rfl
  · show ndOf (as.map Arg.node) i = look none (idx 0 (as.map Arg.node)) i
    rw [look_idx _ _ _ _ (Nat.zero_le _), Nat.sub_zero]
    unfold ndOf
    rw [List.getD_eq_getElem?_getD]
    cases (as.map Arg.node)[i]? <;> rfl

def resW (P : Program) (τ : W) (r : ResultVar) (K : Bool → List Cell → Prop) : Prop :=
  match r with
  | .tmp t => match τ.tv t with
    | .v b l => K b l
    | _ => False
  | .cell a ty => match τ.tv a, szT P ty, rowT P ty with
    | .v false [.ptr id off], some s, some r => match τ.nd id, (r || decide (s = 1)) && decide (s ≠ 0) with
      | some (_, cs), true => ∃ l, cut cs off s = some l ∧ match noOwn l with
        | true => fl l fun l => K r l
        | false => False
      | _, _ => False
    | _, _, _ => False

theorem resW_ok {P : Program} {τ : W} {σ : St} (s : Sim τ σ) {r : ResultVar} {K : Bool → List Cell → Prop} (h : resW P τ r K) : ∃ b l, resVarT P σ r = some (b, l) ∧ K b l := by
  unfold resW at h
  split at h
  · rename_i t
    split at h
    · rename_i b l e
      exact ⟨b, l, by simp only [resVarT, s.tv, e], h⟩
    · exact h.elim
  · rename_i a ty
    split at h
    · rename_i id off sz r e hs hr
      split at h
      · rename_i o cs hid hd
        simp only [Bool.and_eq_true, Bool.or_eq_true, decide_eq_true_eq] at hd
        obtain ⟨l, h1, h⟩ := h
        split at h
        · rename_i hn
          obtain ⟨g1, rfl⟩ := cut_ne h1 hd.2
          refine ⟨_, _, ?_, fl_ok h⟩
          simp only [resVarT, s.tv, s.nd, e, hs, hr, hid]
          rw [if_pos ⟨hd.1, g1, hn⟩]
        · exact h.elim
      · exact h.elim
    · exact h.elim

/-- `zs`: the element sizes of the nil slices within. -/
def exLW (nd : Nat → Option Node) : List Nat → List Cell → (List Cell → List Nat → Prop) → Prop
  | _, [], K => K [] []
  | zs, c :: cs, K => match c with
    | .prim v => exLW nd zs cs fun l u => K (.prim v :: l) u
    | .nil => match zs with
      | [] => exLW nd [] cs fun l u => K (.nil :: l) u
      | s :: zs => exLW nd zs cs fun l u => K (.sl true 0 s [] :: l) u
    | .sl false n s x => exLW nd zs cs fun l u => K (.sl false n s x :: l) u
    | .ref id off n s => match nd id with
      | some (true, cs') => (off = 0 ∧ cs'.length = n * s ∧ s ≠ 0 ∧ cs'.all Cell.shal = true) ∧ exLW nd zs cs fun l u => K (.sl true n s cs' :: l) (id :: u)
      | some (false, cs') => (off + n * s ≤ cs'.length ∧ ((cs'.drop off).take (n * s)).all Cell.shal = true) ∧ ∃ x, (cs'.drop off).take (n * s) = x ∧ exLW nd zs cs fun l u => K (.sl false n s x :: l) u
      | none => False
    | _ => False

theorem exLW_ok {nd : Nat → Option Node} : ∀ {cs : List Cell} {zs : List Nat} {K : List Cell → List Nat → Prop}, exLW nd zs cs K → ∃ l u, exL nd zs cs = some (l, u) ∧ K l u
  | [], zs, K, h => by cases zs <;> exact ⟨_, _, rfl, h⟩
  | c :: cs, zs, K, h => by
    have step : ∀ {c' : Cell} {i : List Nat}, (∀ s zs', zs = s :: zs' → c ≠ .nil) → exC nd c = some (c', i) → (∃ l u, exL nd zs cs = some (l, u) ∧ K (c' :: l) (i ++ u)) → ∃ l u, exL nd zs (c :: cs) = some (l, u) ∧ K l u := by
      intro c' i hn h1 h2
      obtain ⟨l, u, h3, h4⟩ := h2
      refine ⟨_, _, ?_, h4⟩
      cases zs with
      | nil => simp only [exL, h1, h3]
      | cons s zs' =>
        cases c with
        | nil => exact absurd rfl (hn s zs' rfl)
        | _ => simp only [exL, h1, h3]
    unfold exLW at h
    split at h
    · obtain ⟨l, u, h1, h2⟩ := exLW_ok h
      exact step (i := []) (by simp) rfl ⟨l, u, h1, h2⟩
    · split at h
      · obtain ⟨l, u, h1, h2⟩ := exLW_ok h
        exact step (i := []) (fun s zs' e => by cases e) rfl ⟨l, u, h1, h2⟩
      · obtain ⟨l, u, h1, h2⟩ := exLW_ok h
        exact ⟨_, _, by simp only [exL, h1], h2⟩
    · obtain ⟨l, u, h1, h2⟩ := exLW_ok h
      exact step (i := []) (by simp) rfl ⟨l, u, h1, h2⟩
    · rename_i id off n s
      split at h
      · rename_i cs' hid
        obtain ⟨hc, h⟩ := h
        obtain ⟨l, u, h1, h2⟩ := exLW_ok h
        exact step (i := [id]) (by simp) (by simp only [exC, hid]; rw [if_pos hc]) ⟨l, u, h1, h2⟩
      · rename_i cs' hid
        obtain ⟨hc, x, rfl, h⟩ := h
        obtain ⟨l, u, h1, h2⟩ := exLW_ok h
        exact step (i := []) (by simp) (by simp only [exC, hid]; rw [if_pos hc]) ⟨l, u, h1, h2⟩
      · exact h.elim
    · exact h.elim

def finVW (P : Program) (τ : W) : List ResultVar → List (List Nat) → (List (Bool × List Cell) → List Nat → Prop) → Prop
  | [], _, K => K [] []
  | r :: rs, zs, K => resW P τ r fun b l => exLW τ.nd (zs.headD []) l fun l' u => finVW P τ rs zs.tail fun vs us => K ((b, l') :: vs) (u ++ us)

theorem finVW_ok {P : Program} {τ : W} {σ : St} (s : Sim τ σ) : ∀ {rs : List ResultVar} {zs : List (List Nat)} {K : List (Bool × List Cell) → List Nat → Prop}, finVW P τ rs zs K →
    ∃ rv vals used, resVarsT P σ rs = some rv ∧ exV σ.nd zs rv = some (vals, used) ∧ K vals used
  | [], zs, K, h => ⟨[], [], [], rfl, by cases zs <;> rfl, h⟩
  | r :: rs, zs, K, h => by
    obtain ⟨b, l, h1, h⟩ := resW_ok s h
    obtain ⟨l', u, h2, h⟩ := exLW_ok h
    obtain ⟨rv, vals, used, h3, h4, h5⟩ := finVW_ok s h
    refine ⟨(b, l) :: rv, _, _, by simp only [resVarsT, h1, h3], ?_, h5⟩
    rw [← s.ndf] at h2
    simp only [exV, h2, h4]

def outsW (nd : Nat → Option Node) (used : List Nat) : Nat → List Arg → (List (Option (List Cell)) → Prop) → Prop
  | _, [], K => K []
  | j, a :: as, K => match a with
    | .val _ _ => outsW nd used (j + 1) as fun os => K (none :: os)
    | _ => match used.contains j with
      | true => outsW nd used (j + 1) as fun os => K (none :: os)
      | false => match nd j with
        | some (true, cs) => cs.all Cell.shal = true ∧ outsW nd used (j + 1) as fun os => K (some cs :: os)
        | _ => outsW nd used (j + 1) as fun os => K (none :: os)

theorem outsW_ok {nd : Nat → Option Node} {used : List Nat} : ∀ {as : List Arg} {j : Nat} {K : List (Option (List Cell)) → Prop}, outsW nd used j as K → K (outsT nd used j as)
  | [], _, _, h => h
  | a :: as, j, K, h => by
    unfold outsW at h
    split at h
    · exact outsW_ok (as := as) (K := fun os => K (none :: os)) h
    · rename_i hne
      have e1 : outT nd used j a = if used.contains j then none else match nd j with | some (true, cs) => if cs.all Cell.shal = true then some cs else none | _ => none := by
        cases a with
        | val b l => exact (hne b l rfl).elim
        | _ => rfl
      split at h
      · rename_i hu
        have := outsW_ok (as := as) (K := fun os => K (none :: os)) h
        simp only [outsT, e1, hu, if_true]; exact this
      · rename_i hu
        split at h
        · rename_i cs hj
          have := outsW_ok (as := as) (K := fun os => K (some cs :: os)) h.2
          simp only [outsT, e1, hu, hj, h.1, if_true]; exact this
        · rename_i hj
          have := outsW_ok (as := as) (K := fun os => K (none :: os)) h
          have e : outT nd used j a = none := by
            rw [e1, hu, if_neg (by simp)]
            cases hq : nd j with
            | none => rfl
            | some q =>
              obtain ⟨o, cs⟩ := q
              cases o with
              | false => rfl
              | true => exact (hj cs hq).elim
          simp only [outsT]
          rw [e]; exact this

def finW (P : Program) (fn : Func) (zs : List (List Nat)) (τ : W) (as : List Arg) (K : List (Bool × List Cell) → List (Option (List Cell)) → Prop) : Prop :=
  finVW P τ fn.results.toList zs fun vals used => match decide used.Nodup with
    | true => outsW τ.nd used 0 as fun outs => K vals outs
    | false => False

theorem finW_ok {P : Program} {fn : Func} {zs : List (List Nat)} {τ : W} {σ : St} {as : List Arg} {K : List (Bool × List Cell) → List (Option (List Cell)) → Prop} (s : Sim τ σ) (h : finW P fn zs τ as K) :
    ∃ vals outs, finT P fn zs σ as = some (vals, outs) ∧ K vals outs := by
  obtain ⟨rv, vals, used, h1, h2, h⟩ := finVW_ok s h
  split at h
  · rename_i hd
    have hd := of_decide_eq_true hd
    have h3 := outsW_ok h
    refine ⟨_, _, ?_, h3⟩
    simp only [finT, h1, h2]
    rw [if_pos hd, s.ndf]
  · exact h.elim

/-- A FUNCTION DOES WHAT ITS CODE DOES. -/
theorem w_call {P : Program} {X : FuncId → List Arg → List (Bool × List Cell) → List (Option (List Cell)) → Prop} (md : FuncId → List Mode) {f : FuncId} {fn : Func} {c : Code} {as : List Arg} {vals : List (Bool × List Cell)} {outs : List (Option (List Cell))} (zs : List (List Nat))
    (hf : P.funcs[f]? = some fn) (hb : fn.body = some c)
    (h : wCode P X md as.length c (initW as fn.ntmps) fun o τ => match o with
      | .exit _ => False
      | _ => ∃ τ1, WGh as.length τ τ1 ∧ finW P fn zs τ1 as fun v o => v = vals ∧ o = outs) (hx : (noEx as || Nat.ble as.length fn.ntmps) = true := by rfl) : D P X (.call f as vals outs) := by
  obtain ⟨out, σ', τ', h1, h2, h3⟩ := wCode_ok (init_sim as fn.ntmps) h
  have go : (∃ τ1, WGh as.length τ' τ1 ∧ finW P fn zs τ1 as fun v o => v = vals ∧ o = outs) → (out = .norm ∨ out = .ret) → D P X (.call f as vals outs) := by
    rintro ⟨τ1, hg, h4⟩ ho
    obtain ⟨σ1, s1, g⟩ := hg.go _ h2
    obtain ⟨v, o, h5, rfl, rfl⟩ := finW_ok s1 h4
    exact .call zs hf hb hx (.ghostE h1 g) ho h5
  cases out with
  | norm => exact go h3 (.inl rfl)
  | ret => exact go h3 (.inr rfl)
  | exit m => exact h3.elim

end Go.Proofs.Ytacfohamlkbpjaa
