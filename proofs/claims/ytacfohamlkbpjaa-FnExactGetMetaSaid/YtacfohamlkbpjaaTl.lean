/- One operation, all kinds: what T says of it is what the machine does. -/
import Derived.Test.YtacfohamlkbpjaaTk
namespace Go.Proofs.Ytacfohamlkbpjaa
open Go Go.RowKit

section
variable {k : Base} {h : Nat → Option Node} {w : World} {L : Nat → Nat × Nat} {F : Nat → List Nat} {U : Nat → Prop} {nid : Nat} {P : Program}

theorem parts_fit {S U' : Nat → Prop} {L' : Nat → Nat × Nat} {w' : World} {ρ : Operand → Value} {ev : Operand → TV} (hev : ∀ x, RTV S U' L' w' (ρ x) (ev x)) (parts : Array (Nat × Operand)) :
    (parts.map fun (p : Nat × Operand) => (p.1, ρ p.2)).toList.length = (parts.toList.map fun p => (p.1, ev p.2)).length ∧
    ∀ (j : Nat) (p : Nat × Value) (q : Nat × TV), (parts.map fun (p : Nat × Operand) => (p.1, ρ p.2)).toList[j]? = some p → (parts.toList.map fun p => (p.1, ev p.2))[j]? = some q → p.1 = q.1 ∧ RTV S U' L' w' p.2 q.2 := by
  refine ⟨by simp, fun j p q hp hq => ?_⟩
  rw [Array.toList_map, List.getElem?_map] at hp
  rw [List.getElem?_map] at hq
  cases hj : parts.toList[j]? with
  | none => rw [hj] at hp; cases hp
  | some x =>
    rw [hj] at hp hq
    obtain rfl := Option.some.inj hp
    obtain rfl := Option.some.inj hq
    exact ⟨rfl, hev _⟩

theorem opt_fit {S U' : Nat → Prop} {L' : Nat → Nat × Nat} {w' : World} {ρ : Operand → Value} {ev : Operand → TV} (hev : ∀ x, RTV S U' L' w' (ρ x) (ev x)) (x : Option Operand) :
    (x.map ρ = none ∧ x.map ev = none) ∨ ∃ v t, x.map ρ = some v ∧ x.map ev = some t ∧ RTV S U' L' w' v t := by
  cases x with
  | none => exact .inl ⟨rfl, rfl⟩
  | some x => exact .inr ⟨_, _, rfl, rfl, hev x⟩

theorem call_sound (m : Mem k h w L F U) (hn : h nid = none) (hU : ¬ U nid) {ρ : Operand → Value} {ev : Operand → TV} (hev : ∀ x, RTV (SS k h L F w) U L w (ρ x) (ev x)) {b : Builtin} {args : Array Operand} {tys : Array TypeId} {ty : TypeId} {consts : Array Bool} {tv : TV} {l}
    (he : callT P h nid b tys.toList (args.toList.map ev) = some (tv, l)) : Snd k h w L F U nid ((builtin b tys ty consts (args.map ρ)).run P w) tv l := by
  unfold callT at he
  split at he
  · rename_i ts tx s x e1 e2
    obtain ⟨tl⟩ := tys; simp only at e1; subst e1
    obtain ⟨al⟩ := args
    match al, e2 with
    | [a1, a2], e2 =>
      simp only [List.map_cons, List.map_nil, List.cons.injEq, and_true] at e2
      obtain ⟨rfl, rfl⟩ := e2
      have := snd_append (ty := ty) m hn hU (hev a1) (hev a2) he
      simpa [builtin] using this
  · rename_i t x e1 e2
    obtain ⟨tl⟩ := tys; simp only at e1; subst e1
    obtain ⟨al⟩ := args
    match al, e2 with
    | [a1], e2 =>
      simp only [List.map_cons, List.map_nil, List.cons.injEq, and_true] at e2
      subst e2
      obtain ⟨n, h1, h2⟩ := Option.map_eq_some_iff.1 he
      obtain ⟨rfl, rfl⟩ := Prod.mk.inj h2
      have := snd_len (ty := ty) (nid := nid) m (hev a1) h1
      simpa [builtin] using this
  · rename_i kk a kk' b' e2
    obtain ⟨al⟩ := args
    rcases al with _ | ⟨a1, _ | ⟨a2, _ | ⟨a3, al⟩⟩⟩ <;> simp at e2
    obtain ⟨rfl, rfl⟩ := Prod.mk.inj (Option.some.inj he)
    have h1 := hev a1; have h2 := hev a2
    rw [e2.1] at h1; rw [e2.2] at h2
    have := snd_max (tys := tys) (ty := ty) (nid := nid) (P := P) m h1 h2
    simpa [builtin] using this
  · rename_i kk a kk' b' e2
    obtain ⟨al⟩ := args
    rcases al with _ | ⟨a1, _ | ⟨a2, _ | ⟨a3, al⟩⟩⟩ <;> simp at e2
    obtain ⟨rfl, rfl⟩ := Prod.mk.inj (Option.some.inj he)
    have h1 := hev a1; have h2 := hev a2
    rw [e2.1] at h1; rw [e2.2] at h2
    have := snd_min (tys := tys) (ty := ty) (nid := nid) (P := P) m h1 h2
    simpa [builtin] using this
  · cases he

set_option maxHeartbeats 1000000 in
theorem eff_sound (m : Mem k h w L F U) (hn : h nid = none) (hU : ¬ U nid) {ρ : Operand → Value} {ev : Operand → TV} (hev : ∀ x, RTV (SS k h L F w) U L w (ρ x) (ev x)) (o : Oper) {tv : TV} {l}
    (he : eff P h nid ev o.op = some (tv, l)) : Snd k h w L F U nid ((execOp ρ o).run P w) tv l := by
  obtain ⟨dst, op, ty, pos, after, guard⟩ := o
  have get : ∀ {x : Operand} {t : TV}, ev x = t → RTV (SS k h L F w) U L w (ρ x) t := fun {x t} e => e ▸ hev x
  cases op <;> simp only [eff] at he <;> try (cases he; done)
  case move x =>
    obtain ⟨rfl, rfl⟩ := Prod.mk.inj (Option.some.inj he)
    exact snd_same m (v := ρ x) rfl (hev x)
  case assign x =>
    obtain ⟨rfl, rfl⟩ := Prod.mk.inj (Option.some.inj he)
    exact snd_same m (v := ρ x) rfl (hev x)
  case pick c a b =>
    split at he
    · rename_i t e
      obtain ⟨rfl, rfl⟩ := Prod.mk.inj (Option.some.inj he)
      have hc := rep_prim (get e)
      cases t
      · exact snd_same m (v := ρ b) (by simp [execOp, hc, asBool]) (hev b)
      · exact snd_same m (v := ρ a) (by simp [execOp, hc, asBool]) (hev a)
    · cases he
  case alloc t =>
    obtain ⟨z, hz, e⟩ := Option.map_eq_some_iff.1 he
    obtain ⟨rfl, rfl⟩ := Prod.mk.inj e
    exact snd_alloc m hn hU hz
  case box t x =>
    split at he
    · rename_i b l e
      obtain ⟨rfl, rfl⟩ := Prod.mk.inj (Option.some.inj he)
      exact snd_box m hn hU (get e)
    · cases he
  case build t parts =>
    split at he
    · rename_i fs z hu hz
      split at he
      · rename_i hall
        obtain ⟨out, h1, h2⟩ := Option.map_eq_some_iff.1 he
        obtain ⟨rfl, rfl⟩ := Prod.mk.inj h2
        obtain ⟨p1, p2⟩ := parts_fit hev parts
        exact snd_build m hu hz (fun f hf => Option.isSome_iff_exists.1 (List.all_eq_true.1 hall f hf)) p1 p2 h1
      · cases he
    · cases he
  case buildSlice t n parts =>
    split at he
    · rename_i e hee
      split at he
      · rename_i z hz
        split at he
        · rename_i hc
          obtain ⟨out, h1, h2⟩ := Option.map_eq_some_iff.1 he
          obtain ⟨rfl, rfl⟩ := Prod.mk.inj h2
          obtain ⟨p1, p2⟩ := parts_fit hev parts
          exact snd_buildSlice m hn hU hee hz hc p1 p2 h1
        · cases he
      · cases he
    · cases he
  case load t a =>
    split at he
    · rename_i s r hs hr
      split at he
      · rename_i hrs
        split at he
        · rename_i id off e
          split at he
          · rename_i o' cs hid
            split at he
            · rename_i hc
              obtain ⟨rfl, rfl⟩ := Prod.mk.inj (Option.some.inj he)
              exact snd_load_ptr m (get e) hs hr hrs hid hc
            · cases he
          · cases he
        · rename_i l' e
          split at he
          · rename_i hc
            obtain ⟨rfl, rfl⟩ := Prod.mk.inj (Option.some.inj he)
            exact snd_load_rop m (get e) hs hr hrs hc
          · cases he
        · cases he
      · cases he
    · cases he
  case store t a x =>
    split at he
    · rename_i id off b l' e1 e2
      split at he
      · rename_i cs hid
        split at he
        · rename_i hc
          obtain ⟨rfl, rfl⟩ := Prod.mk.inj (Option.some.inj he)
          exact snd_store m (get e1) (get e2) hid hc
        · cases he
      · cases he
    · cases he
  case nilCheck x =>
    split at he
    · rename_i id off e
      obtain ⟨rfl, rfl⟩ := Prod.mk.inj (Option.some.inj he)
      have hx := get e
      have : ∃ a, ρ x = .pointer (some a) := by
        generalize ρ x = q at hx
        cases hx; exact ⟨_, rfl⟩
      obtain ⟨a, ea⟩ := this
      exact snd_same m (v := ρ x) (by simp [execOp, ea]) hx
    · rename_i l' e
      obtain ⟨rfl, rfl⟩ := Prod.mk.inj (Option.some.inj he)
      have hx := get e
      have : ∃ a, ρ x = .pointer (some a) := by
        generalize ρ x = q at hx
        cases hx; exact ⟨_, rfl⟩
      obtain ⟨a, ea⟩ := this
      exact snd_same m (v := ρ x) (by simp [execOp, ea]) hx
    · cases he
  case binOp op t x y yt =>
    split at he
    · rename_i a b e1 e2
      obtain ⟨r, h1, h2⟩ := Option.map_eq_some_iff.1 he
      obtain ⟨rfl, rfl⟩ := Prod.mk.inj h2
      exact snd_bin m (get e1) (get e2) h1
    · rename_i l1 l2 e1 e2
      split at he
      · obtain ⟨r, h1, h2⟩ := Option.map_eq_some_iff.1 he
        obtain ⟨rfl, rfl⟩ := Prod.mk.inj h2
        exact (snd_eqStruct m (get e1) (get e2) h1).1 rfl
      · obtain ⟨r, h1, h2⟩ := Option.map_eq_some_iff.1 he
        obtain ⟨rfl, rfl⟩ := Prod.mk.inj h2
        exact (snd_eqStruct m (get e1) (get e2) h1).2 rfl
      · cases he
    · cases he
  case unOp op t x =>
    split at he
    · rename_i a e
      obtain ⟨r, h1, h2⟩ := Option.map_eq_some_iff.1 he
      obtain ⟨rfl, rfl⟩ := Prod.mk.inj h2
      exact snd_un m (get e) h1
    · cases he
  case convert s d x =>
    split at he
    · rename_i hs hd e
      obtain ⟨rfl, rfl⟩ := Prod.mk.inj (Option.some.inj he)
      exact snd_conv_int m hs hd (get e)
    · rename_i b hs hd e
      obtain ⟨rfl, rfl⟩ := Prod.mk.inj (Option.some.inj he)
      exact snd_conv_str m hs hd (get e)
    · rename_i e' b hs hd e
      split at he
      · rename_i hu8
        obtain ⟨rfl, rfl⟩ := Prod.mk.inj (Option.some.inj he)
        exact snd_conv_bytes m hs hd hu8 (get e)
      · cases he
    · rename_i e' hs hd
      split at he
      · rename_i n N c hu8 hsrc ex
        have key : ∀ (bs : List UInt8), (∀ v, c ≠ .prim v) → strOf N = some bs → Snd k h w L F U nid ((do pure (Next.value (← convert s d (ρ x))) : Sem Next).run P w) (.v false [.prim (.string ⟨bs.toArray⟩)]) [] := fun bs hp hN =>
          snd_conv_text m hs hd hu8 (get ex) (by rw [← ex]; exact hsrc) (fun v e => hp v (by simpa using e)) hN
        split at he
        · cases he
        · rename_i hp
          obtain ⟨bs, h1, h2⟩ := Option.map_eq_some_iff.1 he
          obtain ⟨rfl, rfl⟩ := Prod.mk.inj h2
          exact key bs (fun v e => hp v e) h1
      · cases he
    · cases he
  case makeSlice t l' c =>
    split at he
    · rename_i k1 n k2 n' e e1 e2 hee
      split at he
      · rename_i i z hi hz
        split at he
        · rename_i hc
          obtain ⟨rfl, rfl⟩ := Prod.mk.inj (Option.some.inj he)
          obtain ⟨rfl, h0, h1, h2, h3⟩ := hc
          have q1 := rep_prim (get e1)
          have q2 := rep_prim (get e2)
          have := snd_makeSlice (kl := k1) (kc := k2) m hn hU hee hi hz h0 h1 h2 h3
          rw [← q1, ← q2] at this
          exact this
        · cases he
      · cases he
    · cases he
  case slice t x lo hi mx =>
    cases mx with
    | some _ => simp at he
    | none =>
      simp only at he
      split at he
      · rename_i b e
        split at he
        · rename_i a1 a2 hu h1 h2
          split at he
          · rename_i hc
            obtain ⟨rfl, rfl⟩ := Prod.mk.inj (Option.some.inj he)
            exact snd_slice_str m (opt_fit hev lo) (opt_fit hev hi) hu (get e) h1 h2 hc.1 hc.2
          · cases he
        · cases he
      · rename_i c e
        split at he
        · rename_i e' hee
          split at he
          · rename_i s n hs hnn
            split at he
            · rename_i a1 a2 h1 h2
              obtain ⟨c', h3, h4⟩ := Option.map_eq_some_iff.1 he
              obtain ⟨rfl, rfl⟩ := Prod.mk.inj h4
              exact snd_slice m (opt_fit hev lo) (opt_fit hev hi) hee hs (get e) hnn h1 h2 h3
            · cases he
          · cases he
        · cases he
      · cases he
  case fieldAddr s x f =>
    split at he
    · rename_i fd hf
      split at he
      · rename_i q hs
        split at he
        · rename_i id off e
          obtain ⟨rfl, rfl⟩ := Prod.mk.inj (Option.some.inj he)
          exact snd_field_ptr m (get e) hf hs
        · rename_i l' e
          obtain ⟨rfl, rfl⟩ := Prod.mk.inj (Option.some.inj he)
          exact snd_field_rop m (get e) hf hs
        · cases he
      · cases he
    · cases he
  case field s x f =>
    split at he
    · rename_i fd hf
      split at he
      · rename_i n r l' hs hr e
        split at he
        · rename_i hc
          obtain ⟨rfl, rfl⟩ := Prod.mk.inj (Option.some.inj he)
          exact snd_field m hf hs hr (get e) hc
        · cases he
      · cases he
    · cases he
  case indexAddr t x i =>
    split at he
    · rename_i e' hee
      split at he
      · rename_i s kk j hs ei
        have qi := rep_prim (get ei)
        split at he
        · rename_i id off n s' e
          split at he
          · rename_i hc
            obtain ⟨rfl, rfl⟩ := Prod.mk.inj (Option.some.inj he)
            obtain ⟨h0, h1, rfl⟩ := hc
            have := snd_index_ref (kk := kk) m (get e) hee hs h0 h1 (nid := nid)
            rw [← qi] at this
            exact this
          · cases he
        · rename_i n s' l' e
          split at he
          · rename_i hc
            obtain ⟨rfl, rfl⟩ := Prod.mk.inj (Option.some.inj he)
            obtain ⟨h0, h1, rfl⟩ := hc
            have := snd_index_ro (kk := kk) m (get e) hee hs h0 h1 (nid := nid)
            rw [← qi] at this
            exact this
          · cases he
        · cases he
      · cases he
    · cases he
  case index t x i =>
    split at he
    · rename_i b kk j hu ex ei
      split at he
      · rename_i c hc
        split at he
        · rename_i h0
          obtain ⟨rfl, rfl⟩ := Prod.mk.inj (Option.some.inj he)
          have qi := rep_prim (get ei)
          have := snd_index_str (kk := kk) m hu (get ex) hc h0 (nid := nid)
          rw [← qi] at this
          exact this
        · cases he
      · cases he
    · cases he
  case extract x i =>
    split at he
    · rename_i l' e
      split at he
      · rename_i b cs hi
        obtain ⟨rfl, rfl⟩ := Prod.mk.inj (Option.some.inj he)
        exact snd_extract m (get e) hi
      · cases he
    · cases he
  case call c =>
    obtain ⟨callee, args, tys⟩ := c
    cases callee with
    | value _ => simp at he
    | invoke _ _ => simp at he
    | builtin b =>
      simp only at he
      simp [execOp, resolve, invoke]
      exact call_sound (ty := ty) m hn hU hev he
end

end Go.Proofs.Ytacfohamlkbpjaa
