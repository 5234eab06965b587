/- A call, from the caller's side, part 1: what the callee starts from. -/
import Derived.Test.YtacfohamlkbpjaaTp
namespace Go.Proofs.Ytacfohamlkbpjaa
open Go Go.RowKit

section
variable {k : Base} {h : Nat → Option Node} {w : World} {L : Nat → Nat × Nat} {F : Nat → List Nat} {U : Nat → Prop} {P : Program}

theorem giveL_get : ∀ {l l' : List Cell} {k : Nat} {e : List (Nat × List Cell)}, giveL h k l = some (l', e) → ∀ q ∈ e, h q.1 = some (true, q.2) ∧ q.2.all Cell.shal = true
  | [], l', k, e, he => by
    simp only [giveL, Option.some.injEq, Prod.mk.injEq] at he
    obtain ⟨_, rfl⟩ := he
    intro q hq; cases hq
  | c :: l, l', k, e, he => by
    have one : ∀ {c'}, (match giveL h k l with | some (l', e) => some (c' :: l', e) | none => none) = some (l', e) → ∀ q ∈ e, h q.1 = some (true, q.2) ∧ q.2.all Cell.shal = true := fun {c'} hh => by
      cases e1 : giveL h k l with
      | none => rw [e1] at hh; cases hh
      | some p =>
        rw [e1] at hh
        obtain ⟨l1, e2⟩ := p
        obtain ⟨_, rfl⟩ := Prod.mk.inj (Option.some.inj hh)
        exact giveL_get e1
    cases c with
    | prim v => exact one he
    | nil => exact one he
    | sl o n s x => cases o with
      | false => exact one he
      | true => cases he
    | ref id off n s =>
      simp only [giveL] at he
      split at he
      · rename_i cs hid
        split at he
        · rename_i hc
          split at he
          · rename_i l1 e1 he1
            obtain ⟨_, rfl⟩ := Prod.mk.inj (Option.some.inj he)
            intro q hq
            rcases List.mem_cons.1 hq with rfl | hq
            · exact ⟨hid, hc.2.2⟩
            · exact giveL_get he1 q hq
          · cases he
        · cases he
      · cases he
    | _ => cases he

theorem giveL_rep {S' : Nat → Prop} {U' : Nat → Prop} {L' : Nat → Nat × Nat} (hS : ∀ b, SS k h L F w b → S' b) : ∀ {cs cs' : List Cell} {xs : List Value} {i : Nat} {e : List (Nat × List Cell)},
    Rep (SS k h L F w) U L w xs cs [] → giveL h i cs = some (cs', e) → (∀ p q, e[p]? = some q → U' (i + p) ∧ L' (i + p) = L q.1) → Rep S' U' L' w xs cs' []
  | [], cs', xs, i, e, hr, he, _ => by
    simp only [giveL, Option.some.injEq, Prod.mk.injEq] at he
    obtain ⟨rfl, _⟩ := he
    have := hr.length
    obtain rfl : xs = [] := by simpa using this
    exact .nil
  | c :: cs, cs', xs, i, e, hr, he, hu => by
    match xs, hr with
    | [], hr => have := hr.length; simp at this
    | x :: xs, hr =>
      obtain ⟨G1, G2, eG, r1, r2⟩ := rep_cons hr
      obtain ⟨rfl, rfl⟩ := List.append_eq_nil_iff.1 eG.symm
      have one : ∀ {c'}, (∀ {T : List Cell} {ys : List Value}, Rep S' U' L' w ys T [] → Rep S' U' L' w (x :: ys) (c' :: T) []) → (match giveL h i cs with | some (l', e) => some (c' :: l', e) | none => none) = some (cs', e) → Rep S' U' L' w (x :: xs) cs' [] := fun {c'} hc hh => by
        cases e1 : giveL h i cs with
        | none => rw [e1] at hh; cases hh
        | some p =>
          rw [e1] at hh
          obtain ⟨l1, e2⟩ := p
          obtain ⟨rfl, rfl⟩ := Prod.mk.inj (Option.some.inj hh)
          exact hc (giveL_rep hS r2 e1 hu)
      have fr : ∀ {c : Cell}, closedL [c] = true → Rep (SS k h L F w) U L w [x] [c] [] → ∀ {T : List Cell} {ys : List Value}, Rep S' U' L' w ys T [] → Rep S' U' L' w (x :: ys) (c :: T) [] := fun hcl r T ys ht => ((rep_sub r hS).free hcl).append ht
      cases c with
      | prim v => exact one (fr (by simp [closedL, Cell.closed]) r1) he
      | nil => exact one (fr (by simp [closedL, Cell.closed]) r1) he
      | sl o n s z => cases o with
        | true => cases he
        | false =>
          refine one (fun ht => ?_) he
          cases r1 with
          | ro0 h1 hn => cases hn; exact .ro0 h1 ht
          | ro h1 h2 h3 h4 hc h5 hn => cases hn; exact .ro (fun hl => hS _ (h1 hl)) h2 h3 h4 hc ((rep_sub h5 hS).free hc) ht
      | ref id off n s =>
        simp only [giveL] at he
        split at he
        · rename_i ds hid
          split at he
          · rename_i hc
            split at he
            · rename_i l1 e1 he1
              obtain ⟨rfl, rfl⟩ := Prod.mk.inj (Option.some.inj he)
              obtain ⟨rfl, _, _⟩ := hc
              have ht := giveL_rep (U' := U') (L' := L') hS r2 he1 (fun p q hq => by rw [show i + 1 + p = i + (p + 1) by omega]; exact hu (p + 1) q hq)
              obtain ⟨hu1, hu2⟩ := hu 0 _ rfl
              rw [Nat.add_zero] at hu1 hu2
              simp only at hu2
              cases r1 with
              | ref0 hU hp hnil => cases hnil; exact .ref0 hu1 hp ht
              | @ref _ _ _ _ cap _ _ _ hU hW hn hz hnil =>
                cases hnil
                have := @Rep.ref S' U' L' w i 0 n s cap xs l1 [] hu1 (by rw [hu2]; exact hW) hn hz ht
                rw [hu2] at this; exact this
            · cases he
          · cases he
        · cases he
      | _ => cases he

theorem argsG_get : ∀ {ms : List Mode} {xs : List TV} {i : Nat} {as : List Arg} {sn : List Nat} {ow : List (Option Nat)} {es : List (Nat × List Cell)}, argsG h i ms xs = some (as, sn, ow, es) →
    as.length = xs.length ∧ ow.length = as.length ∧ (∀ e ∈ es, h e.1 = some (true, e.2) ∧ e.2.all Cell.shal = true) ∧
    (∀ (j : Nat) a x, as[j]? = some a → xs[j]? = some x → (∃ m i o, argT h m x = some (a, i, o) ∧ ow[j]? = some o ∧ ∀ y ∈ i, y ∈ sn) ∨
      ∃ b l l' d e, x = .v b l ∧ a = .val b l' ∧ giveL h (i + d) l = some (l', e) ∧ ow[j]? = some none ∧ ∀ (p : Nat) q, e[p]? = some q → es[d + p]? = some q)
  | ms, [], i, as, sn, ow, es, he => by
    cases ms with
    | nil =>
      simp only [argsG, Option.some.injEq, Prod.mk.injEq] at he
      obtain ⟨rfl, rfl, rfl, rfl⟩ := he
      exact ⟨rfl, rfl, by simp, fun j a x h1 _ => by simp at h1⟩
    | cons m ms => cases m <;> simp [argsG] at he
  | ms, x :: xs, i, as, sn, ow, es, he => by
    have old : ∀ {m : Mode} {ms' : List Mode}, (match argT h m x, argsG h i ms' xs with | some (a, i, o), some (as, j, os, es) => some (a :: as, i ++ j, o :: os, es) | _, _ => none) = some (as, sn, ow, es) →
        as.length = (x :: xs).length ∧ ow.length = as.length ∧ (∀ e ∈ es, h e.1 = some (true, e.2) ∧ e.2.all Cell.shal = true) ∧
        (∀ (j : Nat) a y, as[j]? = some a → (x :: xs)[j]? = some y → (∃ m i o, argT h m y = some (a, i, o) ∧ ow[j]? = some o ∧ ∀ z ∈ i, z ∈ sn) ∨
          ∃ b l l' d e, y = .v b l ∧ a = .val b l' ∧ giveL h (i + d) l = some (l', e) ∧ ow[j]? = some none ∧ ∀ (p : Nat) q, e[p]? = some q → es[d + p]? = some q) := by
      intro m ms' he
      split at he
      · rename_i a i1 o as' j' os es' e1 e2
        simp only [Option.some.injEq, Prod.mk.injEq] at he
        obtain ⟨rfl, rfl, rfl, rfl⟩ := he
        obtain ⟨g1, g2, g4, g3⟩ := argsG_get e2
        refine ⟨by simp [g1], by simp [g2], g4, fun j b y h1 h2 => ?_⟩
        cases j with
        | zero =>
          obtain rfl := Option.some.inj h1
          obtain rfl := Option.some.inj h2
          exact .inl ⟨m, i1, o, e1, rfl, fun z hz => by simp [hz]⟩
        | succ j =>
          rcases g3 j b y h1 h2 with ⟨m', i', o', q1, q2, q3⟩ | q
          · exact .inl ⟨m', i', o', q1, q2, fun z hz => by simp [q3 z hz]⟩
          · exact .inr q
      · cases he
    cases ms with
    | nil => exact old he
    | cons m ms =>
      by_cases hm : m = .str ∧ ∃ b l, x = .v b l
      · obtain ⟨rfl, b, l, rfl⟩ := hm
        simp only [argsG] at he
        split at he
        · rename_i l' e1 he1
          split at he
          · rename_i as' j' os es' e2
            simp only [Option.some.injEq, Prod.mk.injEq] at he
            obtain ⟨rfl, rfl, rfl, rfl⟩ := he
            obtain ⟨g1, g2, g4, g3⟩ := argsG_get e2
            refine ⟨by simp [g1], by simp [g2], fun e he => ?_, fun j a y h1 h2 => ?_⟩
            · rcases List.mem_append.1 he with he | he
              · exact giveL_get he1 e he
              · exact g4 e he
            · cases j with
              | zero =>
                obtain rfl := Option.some.inj h1
                obtain rfl := Option.some.inj h2
                exact .inr ⟨b, l, l', 0, e1, rfl, rfl, he1, rfl, fun p q hq => by
                  rw [Nat.zero_add, List.getElem?_append_left (List.getElem?_eq_some_iff.1 hq).1]; exact hq⟩
              | succ j =>
                rcases g3 j a y h1 h2 with q | ⟨b', l2, l2', d, e, q1, q2, q3, q4, q5⟩
                · exact .inl q
                · refine .inr ⟨b', l2, l2', e1.length + d, e, q1, q2, by rw [← Nat.add_assoc]; exact q3, q4, fun p q hq => ?_⟩
                  rw [List.getElem?_append_right (by omega), show e1.length + d + p - e1.length = d + p by omega]
                  exact q5 p q hq
          · cases he
        · cases he
      · have e : argsG h i (m :: ms) (x :: xs) = (match argT h m x, argsG h i ms xs with | some (a, i, o), some (as, j, os, es) => some (a :: as, i ++ j, o :: os, es) | _, _ => none) := by
          cases m with
          | str =>
            cases x with
            | v b l => exact absurd ⟨rfl, b, l, rfl⟩ hm
            | _ => rfl
          | _ => rfl
        rw [e] at he
        exact old he

theorem argsT_get {ms : List Mode} {xs : List TV} {as : List Arg} {sn : List Nat} {ow : List (Option Nat)} (he : argsT h ms xs = some (as, sn, ow)) :
    xs.length ≤ as.length ∧ (noEx as = true → xs.length = as.length) ∧ ow.length = as.length ∧
    (∀ (j : Nat) a x, as[j]? = some a → xs[j]? = some x → (∃ m i o, argT h m x = some (a, i, o) ∧ ow[j]? = some o ∧ ∀ y ∈ i, y ∈ sn) ∨
      ∃ b l l' i e, x = .v b l ∧ a = .val b l' ∧ giveL h i l = some (l', e) ∧ ow[j]? = some none ∧ ∀ (p : Nat) q, e[p]? = some q → i + p < as.length ∧ ow[i + p]? = some (some q.1)) ∧
    (∀ (j : Nat), xs.length ≤ j → j < as.length → ∃ id cs, as[j]? = some (.ex cs) ∧ ow[j]? = some (some id) ∧ h id = some (true, cs) ∧ cs.all Cell.shal = true) := by
  unfold argsT at he
  split at he
  · rename_i as0 sn0 ow0 es e
    simp only [Option.some.injEq, Prod.mk.injEq] at he
    obtain ⟨rfl, rfl, rfl⟩ := he
    obtain ⟨g1, g2, g3, g4⟩ := argsG_get e
    refine ⟨by simp [g1], fun hn => ?_, by simp [g2], fun j a x h1 h2 => ?_, fun j h1 h2 => ?_⟩
    · cases es with
      | nil => simp [g1]
      | cons q es => simp [noEx] at hn
    · have hj : j < xs.length := (List.getElem?_eq_some_iff.1 h2).1
      rw [List.getElem?_append_left (by omega)] at h1
      rcases g4 j a x h1 h2 with ⟨m, i, o, q1, q2, q3⟩ | ⟨b, l, l', d, e', q1, q2, q3, q4, q5⟩
      · exact .inl ⟨m, i, o, q1, by rw [List.getElem?_append_left (by omega)]; exact q2, q3⟩
      · refine .inr ⟨b, l, l', _, e', q1, q2, q3, by rw [List.getElem?_append_left (by omega)]; exact q4, fun p q hq => ?_⟩
        have h5 := q5 p q hq
        have h6 := (List.getElem?_eq_some_iff.1 h5).1
        refine ⟨by simp [g1]; omega, ?_⟩
        rw [List.getElem?_append_right (by omega), show xs.length + d + p - ow0.length = d + p by omega, List.getElem?_map, h5]; rfl
    · have hl : j - as0.length < es.length := by simp at h2; omega
      have he : es[j - as0.length]? = some es[j - as0.length] := List.getElem?_eq_getElem hl
      obtain ⟨q1, q2⟩ := g3 _ (List.getElem_mem hl)
      refine ⟨_, _, ?_, ?_, q1, q2⟩
      · rw [List.getElem?_append_right (by omega), List.getElem?_map, he]; rfl
      · rw [List.getElem?_append_right (by omega), List.getElem?_map, g2, he]; rfl
  · cases he

/-- What is handed on: which node, and how. -/
theorem argT_own {m : Mode} {x : TV} {a : Arg} {i : List Nat} {id : Nat} (he : argT h m x = some (a, i, some id)) :
    ∃ p n s cs, a = .own p n s cs ∧ h id = some (true, cs) ∧ cs.all Cell.shal = true ∧ (x = if p then .v false [.ptr id 0] else .v false [.ref id 0 n s]) ∧ (p = false → cs.length = n * s) := by
  unfold argT at he
  split at he
  · split at he <;> cases he
  · cases he
  · rename_i id' off
    split at he
    · rename_i cs hid
      split at he
      · rename_i hc
        simp only [Option.some.injEq, Prod.mk.injEq] at he
        obtain ⟨rfl, rfl, rfl⟩ := he
        obtain ⟨rfl, hs⟩ := hc
        exact ⟨true, 0, 0, cs, rfl, hid, hs, rfl, fun e => by cases e⟩
      · cases he
    · cases he
  · rename_i id' off n s
    split at he
    · rename_i cs hid
      split at he
      · rename_i hc
        simp only [Option.some.injEq, Prod.mk.injEq] at he
        obtain ⟨rfl, rfl, rfl⟩ := he
        obtain ⟨rfl, hl, hs⟩ := hc
        exact ⟨false, n, s, cs, rfl, hid, hs, rfl, fun _ => hl⟩
      · cases he
    · cases he
  · cases he

theorem argT_val {m : Mode} {x : TV} {a : Arg} {i : List Nat} (he : argT h m x = some (a, i, none)) : (∃ b l l' zs, a = .val b l' ∧ x = .v b l ∧ snapL h zs l = some (l', i)) ∨ ∃ s, a = .own false 0 s [] ∧ x = .v false [.nil] := by
  unfold argT at he
  split at he
  · rename_i zs b l
    split at he
    · rename_i l' j e
      simp only [Option.some.injEq, Prod.mk.injEq, and_true] at he
      obtain ⟨rfl, rfl⟩ := he
      exact .inl ⟨b, l, l', zs, rfl, rfl, e⟩
    · cases he
  · rename_i s
    simp only [Option.some.injEq, Prod.mk.injEq] at he
    obtain ⟨rfl, _, _⟩ := he
    exact .inr ⟨s, rfl, rfl⟩
  · split at he
    · split at he
      · cases he
      · cases he
    · cases he
  · split at he
    · split at he
      · cases he
      · cases he
    · cases he
  · cases he

/-- What the callee only reads stays as it is under the callee. -/
def callBase (k : Base) (h : Nat → Option Node) (w : World) (L : Nat → Nat × Nat) (F : Nat → List Nat) (sn : List Nat) (ow : List (Option Nat)) : Base :=
  ⟨w, fun b => SS k h L F w b ∨ ∃ id ∈ sn, b ∈ Own h L F id, (ow.filterMap id).flatMap (Own h L F)⟩

def callL (L : Nat → Nat × Nat) (ow : List (Option Nat)) (j : Nat) : Nat × Nat :=
  match ow[j]? with
  | some (some id) => L id
  | _ => (0, 0)

def callF (F : Nat → List Nat) (ow : List (Option Nat)) (j : Nat) : List Nat :=
  match ow[j]? with
  | some (some id) => F id
  | _ => []

theorem snapC_rep {S' : Nat → Prop} (m : Mem k h w L F U) {x : Value} {c c' : Cell} {i : List Nat} (hS : ∀ b, SS k h L F w b → S' b) (hi : ∀ id ∈ i, ∀ b ∈ Own h L F id, S' b) (hr : Rep (SS k h L F w) U L w [x] [c] []) (he : snapC h c = some (c', i))
    (U' : Nat → Prop) (L' : Nat → Nat × Nat) : Rep S' U' L' w [x] [c'] [] := by
  unfold snapC at he
  split at he
  · obtain ⟨rfl, rfl⟩ := Prod.mk.inj (Option.some.inj he); exact (rep_sub hr hS).free (by simp [closedL, Cell.closed])
  · obtain ⟨rfl, rfl⟩ := Prod.mk.inj (Option.some.inj he); exact (rep_sub hr hS).free (by simp [closedL, Cell.closed])
  · obtain ⟨rfl, rfl⟩ := Prod.mk.inj (Option.some.inj he)
    cases hr with
    | ro0 h1 hn => cases hn; exact .ro0 h1 .nil
    | ro h1 h2 h3 h4 hc h5 hn => cases hn; exact .ro (fun hl => hS _ (h1 hl)) h2 h3 h4 hc ((rep_sub h5 hS).free hc) .nil
  · obtain ⟨rfl, rfl⟩ := Prod.mk.inj (Option.some.inj he)
    rename_i s; exact own0_only hr (Q := fun x => Rep S' U' L' w [x] [.sl false 0 s []] []) (fun p hp => ro_zero hp .nil)
  · rename_i id off n s
    split at he
    · rename_i o cs hid
      split at he
      · rename_i hc
        obtain ⟨rfl, rfl⟩ := Prod.mk.inj (Option.some.inj he)
        obtain ⟨hc1, hc2⟩ := hc
        obtain ⟨_, us, g1, g2, g3, g4⟩ := m.node id _ hid
        simp only at g2 g4
        have hl := g2.length
        have ecs : cs = cs.take off ++ (cs.drop off).take (n * s) ++ cs.drop (off + n * s) := by
          rw [List.append_assoc, ← List.drop_drop, List.take_append_drop, List.take_append_drop]
        rw [ecs] at g2
        obtain ⟨uAB, uC, FAB, FC, rfl, eF, rAB, rC⟩ := g2.split
        obtain ⟨uA, uB, FA, FB, rfl, rfl, rA, rB⟩ := rAB.split
        have lA := rA.length; have lB := rB.length
        have hA : (cs.take off).length = off := by simp; omega
        have hB : ((cs.drop off).take (n * s)).length = n * s := by simp; omega
        have hcl := rB.closed hc2
        have hF : ∀ b ∈ FB, S' b := by
          intro b hb
          cases o with
          | true =>
            have hne : cs ≠ [] := fun e => by
              have : (cs.drop off).take (n * s) = [] := by rw [e]; simp
              rw [this] at rB
              rw [(rep_nil rB).2] at hb; cases hb
            exact hi id (by simp) b (by rw [own_ne hid hne, eF]; simp [hb])
          | false =>
            obtain ⟨g5, _⟩ := g4 rfl
            rw [g5] at eF
            have : FB = [] := (List.append_eq_nil_iff.1 (List.append_eq_nil_iff.1 eF.symm).1).2
            subst this; cases hb
        have hLid : cs ≠ [] → S' (L id).1 := fun hne => by
          cases o with
          | true => exact hi id (by simp) _ (by rw [own_ne hid hne]; simp)
          | false => exact hS _ ((g4 rfl).2 hne)
        have hr2 := rangeAt_right (rangeAt_left g1)
        rw [show uA.length = off by omega] at hr2
        cases hr with
        | ref0 hU hp hnil =>
          cases hnil
          simpa [roifyL] using @ro_zero S' U' L' w _ s [] [] [] hp .nil
        | ref hU hW hn hz hnil =>
          cases hnil
          exact .ro (us := uB) (fun hne => hLid (fun e => hne (by rw [e]; simp [roifyL]))) (by rw [roifyL_length, hB]) hn hr2 (by rw [closedL_roify]; exact hcl) ((rB.roify hS hF).free (by rw [closedL_roify]; exact hcl)) .nil
      · cases he
    · cases he
  · cases he

theorem snapL_rep {S' : Nat → Prop} (m : Mem k h w L F U) (hS : ∀ b, SS k h L F w b → S' b) (U' : Nat → Prop) (L' : Nat → Nat × Nat) : ∀ {zs : List Nat} {cs cs' : List Cell} {xs : List Value} {i : List Nat}, (∀ id ∈ i, ∀ b ∈ Own h L F id, S' b) →
    Rep (SS k h L F w) U L w xs cs [] → snapL h zs cs = some (cs', i) → Rep S' U' L' w xs cs' []
  | zs, [], cs', xs, i, _, hr, he => by
    have he : some (([] : List Cell), ([] : List Nat)) = some (cs', i) := by cases zs <;> exact he
    obtain ⟨rfl, rfl⟩ := Prod.mk.inj (Option.some.inj he)
    have := hr.length
    obtain rfl : xs = [] := by simpa using this
    exact .nil
  | zs, c :: cs, cs', xs, i, hi, hr, he => by
    match xs, hr with
    | [], hr => have := hr.length; simp at this
    | x :: xs, hr =>
      obtain ⟨G1, G2, e, r1, r2⟩ := rep_cons hr
      obtain ⟨rfl, rfl⟩ := List.append_eq_nil_iff.1 e.symm
      unfold snapL at he
      split at he
      · rename_i e3; cases e3
      · rename_i s zs' cs0 e3
        obtain ⟨rfl, rfl⟩ := List.cons.inj e3
        split at he
        · rename_i cs'' j e2
          obtain ⟨rfl, rfl⟩ := Prod.mk.inj (Option.some.inj he)
          obtain rfl := rep_nilc r1
          exact .ro0 (fun _ => rfl) (snapL_rep m hS U' L' hi r2 e2)
        · cases he
      · rename_i c0 cs0 _ e3
        obtain ⟨rfl, rfl⟩ := List.cons.inj e3
        split at he
        · rename_i c' i1 cs'' i2 e1 e2
          obtain ⟨rfl, rfl⟩ := Prod.mk.inj (Option.some.inj he)
          have h1 := snapC_rep m hS (fun id hid => hi id (by simp [hid])) r1 e1 U' L'
          have h2 := snapL_rep m hS U' L' (fun id hid => hi id (by simp [hid])) r2 e2
          exact h1.append h2
        · cases he

theorem argTVs_get : ∀ (as : List Arg) (j0 j : Nat), (argTVs j0 as)[j]? = (as[j]?).map fun a => a.tv (j0 + j)
  | [], _, _ => by simp [argTVs]
  | a :: as, j0, 0 => by simp [argTVs]
  | a :: as, j0, j + 1 => by
    simp only [argTVs, List.getElem?_cons_succ]
    rw [argTVs_get as (j0 + 1) j, show j0 + 1 + j = j0 + (j + 1) by omega]

theorem node_get (as : List Arg) (j : Nat) : ndOf (as.map Arg.node) j = (as[j]?).bind Arg.node := by
  unfold ndOf
  rw [List.getElem?_map]
  cases as[j]? <;> rfl

/-- The callee's start. -/
theorem call_start (m : Mem k h w L F U) {ms : List Mode} {tvs : List TV} {xs : List Value} {as : List Arg} {sn : List Nat} {ow : List (Option Nat)} (he : argsT h ms tvs = some (as, sn, ow)) (hnd : (ow.filterMap id).Nodup) (hdis : ∀ x ∈ sn, some x ∉ ow)
    (hl : xs.length = tvs.length) (hx : ∀ (j : Nat) x t, xs[j]? = some x → tvs[j]? = some t → RTV (SS k h L F w) U L w x t) :
    Mem (callBase k h w L F sn ow) (ndOf (as.map Arg.node)) w (callL L ow) (callF F ow) (· < as.length) ∧
    ∀ i, RTV (SS (callBase k h w L F sn ow) (ndOf (as.map Arg.node)) (callL L ow) (callF F ow) w) (· < as.length) (callL L ow) w (xs.toArray.getD i undef) ((argTVs 0 as).getD i .undef) := by
  obtain ⟨l1, _, l2, get, ext⟩ := argsT_get he
  -- each node of the callee's is one of the caller's
  have node : ∀ j nd, ndOf (as.map Arg.node) j = some nd → (∃ id cs, ow[j]? = some (some id) ∧ nd = (true, cs) ∧ h id = some (true, cs) ∧ cs.all Cell.shal = true) ∨ (nd = (true, []) ∧ j < as.length ∧ ow[j]? = some none) := by
    intro j nd hj
    rw [node_get] at hj
    cases ha : as[j]? with
    | none => rw [ha] at hj; cases hj
    | some a =>
      rw [ha] at hj
      have hja := (List.getElem?_eq_some_iff.1 ha).1
      by_cases hjl : j < tvs.length
      · rcases get j a tvs[j] ha (List.getElem?_eq_getElem hjl) with ⟨m', i, o, q1, q2, q3⟩ | ⟨b, l, l', _, _, _, rfl, _⟩
        · cases o with
          | none =>
            rcases argT_val q1 with ⟨b, l, l', zs, rfl, _, _⟩ | ⟨s, rfl, _⟩
            · cases hj
            · exact .inr ⟨(Option.some.inj hj).symm, hja, q2⟩
          | some id =>
            obtain ⟨p, n, s, cs, rfl, e1, e2, _, _⟩ := argT_own q1
            exact .inl ⟨id, cs, q2, (Option.some.inj hj).symm, e1, e2⟩
        · cases hj
      · obtain ⟨id, cs, q1, q2, q3, q4⟩ := ext j (by omega) hja
        rw [ha] at q1
        obtain rfl := Option.some.inj q1
        exact .inl ⟨id, cs, q2, (Option.some.inj hj).symm, q3, q4⟩
  have own : ∀ j, Own (ndOf (as.map Arg.node)) (callL L ow) (callF F ow) j = [] ∨ ∃ id, ow[j]? = some (some id) ∧ Own (ndOf (as.map Arg.node)) (callL L ow) (callF F ow) j = Own h L F id := by
    intro j
    cases hj : ndOf (as.map Arg.node) j with
    | none => left; simp [Own, hj]
    | some nd =>
      rcases node j nd hj with ⟨id, cs, e1, rfl, e2, _⟩ | ⟨rfl, _⟩
      · refine .inr ⟨id, e1, ?_⟩
        rw [own_of hj, own_of e2]
        simp [callL, callF, e1]
      · left; rw [own_of hj]; rfl
  have memow : ∀ {j : Nat} {id : Nat}, ow[j]? = some (some id) → id ∈ ow.filterMap (fun x => x) := fun {j id} hj => List.mem_filterMap.2 ⟨some id, List.mem_of_getElem? hj, rfl⟩
  have uniq : ∀ (o : List (Option Nat)) (i j : Nat) (id : Nat), (o.filterMap (fun x => x)).Nodup → o[i]? = some (some id) → o[j]? = some (some id) → i = j := by
    intro o
    induction o with
    | nil => intro i j id _ h1; simp at h1
    | cons a o ih =>
      intro i j id hn h1 h2
      have hn' : (o.filterMap (fun x => x)).Nodup := by
        cases a with
        | none => simpa using hn
        | some a => simp only [List.filterMap_cons] at hn; exact (List.nodup_cons.1 hn).2
      cases i with
      | zero =>
        cases j with
        | zero => rfl
        | succ j =>
          obtain rfl := Option.some.inj h1
          simp only [List.filterMap_cons] at hn
          have h2' : o[j]? = some (some id) := h2
          exact absurd (show id ∈ o.filterMap (fun x => x) from List.mem_filterMap.2 ⟨some id, List.mem_of_getElem? h2', rfl⟩) (List.nodup_cons.1 hn).1
      | succ i =>
        cases j with
        | zero =>
          obtain rfl := Option.some.inj h2
          simp only [List.filterMap_cons] at hn
          have h1' : o[i]? = some (some id) := h1
          exact absurd (show id ∈ o.filterMap (fun x => x) from List.mem_filterMap.2 ⟨some id, List.mem_of_getElem? h1', rfl⟩) (List.nodup_cons.1 hn).1
        | succ j => rw [ih i j id hn' h1 h2]
  have inB0 : ∀ {b}, b ∈ (callBase k h w L F sn ow).B0 → ∃ id, some id ∈ ow ∧ b ∈ Own h L F id := by
    intro b hb
    obtain ⟨id, h1, h2⟩ := List.mem_flatMap.1 hb
    obtain ⟨o, h3, h4⟩ := List.mem_filterMap.1 h1
    exact ⟨id, by rw [← h4]; exact h3, h2⟩
  have hSS : ∀ b, SS k h L F w b → SS (callBase k h w L F sn ow) (ndOf (as.map Arg.node)) (callL L ow) (callF F ow) w b := fun b hb =>
    ⟨.inl (.inl hb), hb.2.1, fun j hj => by
      rcases own j with e | ⟨id, _, e⟩
      · rw [e] at hj; cases hj
      · rw [e] at hj; exact hb.2.2 id hj⟩
  have hsn : ∀ id ∈ sn, ∀ b ∈ Own h L F id, SS (callBase k h w L F sn ow) (ndOf (as.map Arg.node)) (callL L ow) (callF F ow) w b := fun id hid b hb =>
    ⟨.inl (.inr ⟨id, hid, hb⟩), Own.lt m hb, fun j hj => by
      rcases own j with e | ⟨id', e1, e⟩
      · rw [e] at hj; cases hj
      · rw [e] at hj
        by_cases e2 : id = id'
        · subst e2; exact hdis id hid (List.mem_of_getElem? e1)
        · exact m.disj id id' e2 b hb hj⟩
  refine ⟨⟨fun b hb => ?_, fun b hb => ?_, fun j nd hj => ?_, fun j => ?_, fun i j hij b hb hc => ?_, fun j b hb => ?_, fun _ _ _ => rfl, rfl, rfl, rfl, Grows.refl _⟩, fun j => ?_⟩
  · rcases hb with hb | ⟨id, hid, hb⟩
    · exact ⟨hb.2.1, fun hc => by obtain ⟨id, _, hi⟩ := inB0 hc; exact hb.2.2 id hi⟩
    · refine ⟨Own.lt m hb, fun hc => ?_⟩
      obtain ⟨id', h1, h2⟩ := inB0 hc
      by_cases e2 : id = id'
      · subst e2; exact hdis id hid h1
      · exact m.disj id id' e2 b hb h2
  · obtain ⟨id, _, h2⟩ := inB0 hb; exact Own.lt m h2
  · rcases node j nd hj with ⟨id, cs, e1, rfl, e2, e3⟩ | ⟨rfl, hj', e1⟩
    rotate_left
    · have : callF F ow j = [] := by simp [callF, e1]
      rw [this]
      exact ⟨hj', [], rangeAt_nil _ _ _, .nil, fun q => absurd rfl q, fun e => by cases e⟩
    obtain ⟨_, us, g1, g2, g3, _⟩ := m.node id _ e2
    simp only at g2
    have hj' : j < as.length := by
      rw [← l2]; exact (List.getElem?_eq_some_iff.1 e1).1
    refine ⟨hj', us, by simpa [callL, e1] using g1, ?_, by simpa [callL, e1] using g3, fun e => by cases e⟩
    have : callF F ow j = F id := by simp [callF, e1]
    rw [this]
    exact (rep_sub g2 hSS).free (g2.closed e3)
  · rcases own j with e | ⟨id, _, e⟩
    · rw [e]; simp
    · rw [e]; exact m.nodup id
  · rcases own i with e | ⟨id, e1, e⟩
    · rw [e] at hb; cases hb
    · rcases own j with e' | ⟨id', e2, e'⟩
      · rw [e'] at hc; cases hc
      · rw [e] at hb; rw [e'] at hc
        by_cases e3 : id = id'
        · subst e3; exact hij (uniq ow i j id hnd e1 e2)
        · exact m.disj id id' e3 b hb hc
  · rcases own j with e | ⟨id, e1, e⟩
    · rw [e] at hb; cases hb
    · rw [e] at hb
      exact .inr (List.mem_flatMap.2 ⟨id, memow e1, hb⟩)
  · have hg : (argTVs 0 as).getD j .undef = (((as[j]?).map fun a => a.tv j)).getD .undef := by
      rw [List.getD_eq_getElem?_getD, argTVs_get]; simp
    rw [hg]
    cases ha : as[j]? with
    | none => trivial
    | some a =>
      have hja : j < as.length := (List.getElem?_eq_some_iff.1 ha).1
      by_cases hjl : j < tvs.length
      rotate_left
      · obtain ⟨id, cs, q1, _⟩ := ext j (by omega) hja
        rw [ha] at q1
        obtain rfl := Option.some.inj q1
        trivial
      have hjx : j < xs.length := by omega
      have hget := get j a tvs[j] ha (List.getElem?_eq_getElem hjl)
      have hr := hx j xs[j] tvs[j] (List.getElem?_eq_getElem hjx) (List.getElem?_eq_getElem hjl)
      have hxv : xs.toArray.getD j undef = xs[j] := by simp [Array.getD_eq_getD_getElem?, hjx]
      rw [hxv]
      simp only [Option.map_some, Option.getD_some]
      rcases hget with ⟨m', i, o, q1, q2, q3⟩ | ⟨b, l, l', i, e, e1, rfl, q1, q2, q3⟩
      rotate_left
      · rw [e1] at hr
        have hu : ∀ (p : Nat) q, e[p]? = some q → (i + p < as.length) ∧ callL L ow (i + p) = L q.1 := fun p q hq => by
          obtain ⟨z1, z2⟩ := q3 p q hq
          exact ⟨z1, by simp [callL, z2]⟩
        cases b with
        | false => exact giveL_rep hSS hr q1 hu
        | true =>
          obtain ⟨vs, e3, hr⟩ := hr
          exact ⟨vs, e3, giveL_rep hSS hr q1 hu⟩
      cases o with
      | none =>
        rcases argT_val q1 with ⟨b, l, l', zs, rfl, e1, e2⟩ | ⟨s, rfl, e1⟩
        rotate_left
        · rw [e1] at hr
          show Rep _ _ _ _ _ _ _
          generalize xs[j] = x at hr
          obtain rfl := rep_nilc hr
          exact .ref0 hja (.inl rfl) .nil
        rw [e1] at hr
        cases b with
        | false => exact snapL_rep m hSS _ _ (fun id hid => hsn id (q3 id hid)) hr e2
        | true =>
          obtain ⟨vs, e3, hr⟩ := hr
          exact ⟨vs, e3, snapL_rep m hSS _ _ (fun id hid => hsn id (q3 id hid)) hr e2⟩
      | some id =>
        obtain ⟨p, n, s, cs, rfl, e1, e2, e3, e4⟩ := argT_own q1
        have eL : callL L ow j = L id := by simp [callL, q2]
        rw [e3] at hr
        cases p with
        | true =>
          simp only [if_true] at hr
          show Rep _ _ _ _ _ _ _
          generalize xs[j] = x at hr
          cases hr with
          | ptr hU hnil =>
            have := @Rep.ptr (SS (callBase k h w L F sn ow) (ndOf (as.map Arg.node)) (callL L ow) (callF F ow) w) (· < as.length) (callL L ow) w j 0 [] [] [] hja .nil
            rw [eL] at this; exact this
        | false =>
          simp only [Bool.false_eq_true, if_false] at hr
          show Rep _ _ _ _ _ _ _
          generalize xs[j] = x at hr
          cases hr with
          | ref0 hU hp hnil => exact .ref0 hja hp .nil
          | @ref _ _ _ _ cap _ _ _ hU hW hn hz hnil =>
            have := @Rep.ref (SS (callBase k h w L F sn ow) (ndOf (as.map Arg.node)) (callL L ow) (callF F ow) w) (· < as.length) (callL L ow) w j 0 n s cap [] [] [] hja (by rw [eL]; exact hW) hn hz .nil
            rw [eL] at this; exact this
end

end Go.Proofs.Ytacfohamlkbpjaa
