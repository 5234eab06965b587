/- One operation, part 5: conversions, cuts, parts, lengths. -/
import Derived.Test.YtacfohamlkbpjaaTj
namespace Go.Proofs.Ytacfohamlkbpjaa
open Go Go.RowKit

section
variable {k : Base} {h : Nat → Option Node} {w : World} {L : Nat → Nat × Nat} {F : Nat → List Nat} {U : Nat → Prop} {nid : Nat} {P : Program}

theorem snd_conv_int (m : Mem k h w L F U) {s d : TypeId} {u : Value} {ds : TypeDesc} {kk kk' : IntKind} {n : Int} (hs : P.underlying s = some ds) (hd : P.underlying d = some (.int kk)) (hx : RTV (SS k h L F w) U L w u (.v false [.prim (.int kk' n)])) :
    Snd k h w L F U nid ((do pure (Next.value (← convert s d u)) : Sem Next).run P w) (.v false [.prim (.int kk (kk.wrap n))]) [] := by
  obtain rfl := rep_prim hx
  exact snd_same m (v := .int kk (kk.wrap n)) (by simp [convert, run_underlying hs, run_underlying hd, Conv.intToInt]) (rtv_prim rfl)

theorem snd_conv_str (m : Mem k h w L F U) {s d : TypeId} {u : Value} {b : ByteArray} (hs : P.underlying s = some .string) (hd : P.underlying d = some .string) (hx : RTV (SS k h L F w) U L w u (.v false [.prim (.string b)])) :
    Snd k h w L F U nid ((do pure (Next.value (← convert s d u)) : Sem Next).run P w) (.v false [.prim (.string b)]) [] := by
  obtain rfl := rep_prim hx
  exact snd_same m (v := .string b) (by simp [convert, run_underlying hs, run_underlying hd]) (rtv_prim rfl)

theorem snd_conv_bytes (m : Mem k h w L F U) {s d e : TypeId} {u : Value} {b : ByteArray} (hs : P.underlying s = some .string) (hd : P.underlying d = some (.slice e)) (he : P.underlying e = some (.int .u8))
    (hx : RTV (SS k h L F w) U L w u (.v false [.prim (.string b)])) :
    Snd k h w L F U nid ((do pure (Next.value (← convert s d u)) : Sem Next).run P w) (.v false [.sl false b.size 1 (byteC b.data.toList)]) [] := by
  obtain rfl := rep_prim hx
  have hr := Lib.run_convert_string_bytes w s d e b hs hd he
  have hnew := Lib.bytesWorld_at_new w e b
  have hsz := Lib.bytesWorld_size w e b
  have hge := grownCap_ge w b.size 0 e
  have g : Grows w (Lib.bytesWorld w e b) := ⟨by omega, fun x c e' fr hb => ⟨c, by rw [Lib.bytesWorld_at_old w e b x (Array.getElem?_eq_some_iff.1 hb).1]; exact hb, rfl⟩⟩
  obtain ⟨m', mo⟩ := m.master (h' := h) (w' := Lib.bytesWorld w e b) (L' := L) (F' := F) (U' := U) g (by simp [Lib.bytesWorld, World.freeze, World.alloc, World.drew, -World.alloc_eq, -World.drew_eq]) (by simp [Lib.bytesWorld, World.freeze, World.alloc, World.drew, -World.alloc_eq, -World.drew_eq]) (by simp [Lib.bytesWorld, World.freeze, World.alloc, World.drew, -World.alloc_eq, -World.drew_eq])
    (fun i b hb => .inl ⟨i, hb⟩) m.nodup m.disj (fun x hx _ => Lib.bytesWorld_at_old w e b x hx) (fun i hi => ⟨hi, rfl⟩)
    (fun mo id nd hid => m.keep mo hid rfl (fun x hx => Lib.bytesWorld_at_old w e b x (Own.lt m hx)))
  refine ⟨_, _, _, _, _, by rw [Sem.run_bind, hr]; rfl, .inl ⟨_, rfl, ?_⟩, m', mo, fun i hi => .inl hi⟩
  have hra : (Lib.bytesWorld w e b).rangeAt w.heap.size 0 (byteCells b) := by
    intro j v hv
    have hj : j < b.size := by rw [← byteCells_length]; exact (List.getElem?_eq_some_iff.1 hv).1
    have h1 := Lib.bytesWorld_cell w e b j hj
    simp only [Nat.zero_add]
    rw [h1, ← hv, byteCells, List.getElem?_map]
    have : j < b.data.toList.length := by simpa using hj
    simp [List.getD, List.getElem?_eq_getElem this]
  have hlen : (byteC b.data.toList).length = b.size * 1 := by simp [byteC]
  have hcl : ∀ l : List UInt8, closedL (byteC l) = true := by
    intro l
    induction l with
    | nil => rfl
    | cons a l ih => simpa [byteC, closedL, Cell.closed] using ih
  exact .ro (fun _ => ⟨.inr (.inr m.grows.1), by omega, fun i hi => by have := Own.lt m hi; omega⟩) hlen hge hra (hcl _) (byteC_rep b) .nil

theorem strOf_ints : ∀ {N : List Cell} {bs : List UInt8}, strOf N = some bs → ∃ ns : List Int, N = ns.map (fun n => .prim (.int .u8 n)) ∧ bs = ns.map fun n => UInt8.ofNat n.toNat
  | [], bs, he => by simp [strOf] at he; subst he; exact ⟨[], rfl, rfl⟩
  | c :: N, bs, he => by
    unfold strOf at he
    split at he
    · rename_i e; cases e
    · rename_i n l e
      obtain ⟨rfl, rfl⟩ := List.cons.inj e
      cases hs : strOf N with
      | none => simp [hs] at he
      | some b' =>
        simp [hs] at he
        obtain ⟨ns, h1, h2⟩ := strOf_ints hs
        exact ⟨n :: ns, by simp [h1], by rw [← he, h2]; rfl⟩
    · cases he

theorem foldl_push : ∀ (ns : List Int) (r : ByteArray), ns.foldl (fun r n => r.push (UInt8.ofNat n.toNat)) r = ⟨(r.data.toList ++ ns.map fun n => UInt8.ofNat n.toNat).toArray⟩
  | [], r => by simp
  | n :: ns, r => by
    rw [List.foldl_cons, foldl_push ns]
    simp [ByteArray.push]

theorem rep_ints {S : Nat → Prop} {U L w} : ∀ {ns : List Int} {us : List Value}, Rep S U L w us (ns.map fun n => .prim (.int .u8 n)) [] → us = ns.map (Value.int .u8)
  | [], us, hr => by have := hr.length; simpa using this
  | n :: ns, us, hr => by
    cases hr with
    | prim _ hr => rw [rep_ints hr]; rfl

theorem snd_conv_text (m : Mem k h w L F U) {s d e : TypeId} {u : Value} {tv : TV} {n : Nat} {N : List Cell} {bs : List UInt8} (hs : P.underlying s = some (.slice e)) (hd : P.underlying d = some .string) (he : P.underlying e = some (.int .u8))
    (hx : RTV (SS k h L F w) U L w u tv) (hsrc : srcT h 1 tv = some (n, N)) (hp : ∀ v, tv ≠ .v false [.prim v]) (hN : strOf N = some bs) :
    Snd k h w L F U nid ((do pure (Next.value (← convert s d u)) : Sem Next).run P w) (.v false [.prim (.string ⟨bs.toArray⟩)]) [] := by
  obtain ⟨ns, rfl, rfl⟩ := strOf_ints hN
  have main : ∀ (a : Addr) (len cap : Nat) (us : List Value), us.length = len → (∀ (j : Nat) (u : Value), us[j]? = some u → w.cell? (a.add j) = some u) → Rep (SS k h L F w) U L w us (ns.map fun n => .prim (.int .u8 n)) [] →
      (convert s d (.slice (some a) len cap)).run P w = .ok (.string ⟨(ns.map fun n => UInt8.ofNat n.toNat).toArray⟩) w := by
    intro a len cap us h1 h2 h3
    have e := rep_ints h3
    have hl : (loadCells a len).run P w = .ok (ns.map (Value.int .u8)).toArray w := by rw [← h1, ← e]; exact run_loadCells_list (P := P) w a us h2
    have := run_bytesToString w a len cap ns hl
    rw [foldl_push] at this
    have hsd : (s == d) = false := by
      rw [beq_eq_false_iff_ne]; intro e; subst e; rw [hs] at hd; cases hd
    simp [convert, run_underlying hs, run_underlying hd, run_underlying he, this]
  unfold srcT at hsrc
  split at hsrc
  · obtain ⟨_, h2⟩ := Prod.mk.inj (Option.some.inj hsrc)
    obtain rfl : ns = [] := by simpa using h2.symm
    obtain rfl := rep_nilc hx
    exact snd_same m (v := .string .empty) (by simp [convert, run_underlying hs, run_underlying hd, run_underlying he, Conv.bytesToString]) (rtv_prim rfl)
  · rename_i n' s' l
    split at hsrc
    · obtain ⟨rfl, el⟩ := Prod.mk.inj (Option.some.inj hsrc)
      rename_i es
      subst es
      cases hx with
      | @ro0 p cap _ _ _ _ h0 _ =>
        obtain rfl : ns = [] := by simpa using el.symm
        cases p with
        | some a => exact snd_same m (by simp [main a 0 cap [] rfl (fun j u h => by simp at h) .nil]) (rtv_prim rfl)
        | none =>
        obtain rfl := h0 rfl
        exact snd_same m (v := .string .empty) (by simp [convert, run_underlying hs, run_underlying hd, run_underlying he, Conv.bytesToString]) (rtv_prim rfl)
      | @ro b o _ cap _ _ us _ _ _ h1 h2 h3 h4 hcl h5 hnil =>
        cases hnil
        subst el
        exact snd_same m (by simp [main _ _ cap us (by rw [h5.length, h2, Nat.mul_one]) (rangeAt_add h4) h5]) (rtv_prim rfl)
    · cases hsrc
  · rename_i id off n' s'
    split at hsrc
    · rename_i o cs hid
      split at hsrc
      · rename_i hc
        obtain ⟨rfl, e2⟩ := Prod.mk.inj (Option.some.inj hsrc)
        obtain ⟨rfl, hc1, hc2⟩ := hc
        obtain ⟨_, us, h1, h2, h3, _⟩ := m.node id _ hid
        simp only at h2
        have hr := rep_mid off (n' * 1) h2 hc2
        have hl := h2.length
        rw [e2] at hr
        cases hx with
        | ref0 hU hpp _ =>
          have e0 : ns = [] := by simpa using e2.symm
          subst e0
          rcases hpp with rfl | ⟨b, o, rfl⟩
          · exact snd_same m (v := .string .empty) (by simp [convert, run_underlying hs, run_underlying hd, run_underlying he, Conv.bytesToString]) (rtv_prim rfl)
          · exact snd_same m (by simp [main ⟨b, o, none⟩ 0 0 [] rfl (fun j u h => by simp at h) .nil]) (rtv_prim rfl)
        | @ref _ _ _ _ cap _ _ _ hU hW hn hz hnil =>
          cases hnil
          exact snd_same m (by simp [main ⟨(L id).1, (L id).2 + off, none⟩ n' cap ((us.drop off).take (n' * 1)) (by simp; omega) (rangeAt_add (rangeAt_take (rangeAt_drop h1 off) (n' * 1))) hr]) (rtv_prim rfl)
      · cases hsrc
    · cases hsrc
  · exact absurd rfl (hp _)
  · cases hsrc

/-! ### Cuts -/
theorem bound_run {c : BoundsCode} {x : Value} {j : Int} {kk : IntKind} {y : Nat} (h0 : 0 ≤ j) (hy : j.toNat ≤ y) (hx : x = .int kk j) : (Instr.sliceBound x y c).run P w = .ok j.toNat w := by
  subst hx
  have : 0 ≤ j ∧ j ≤ (y : Int) := ⟨h0, by omega⟩
  simp [Instr.sliceBound, asIntOf, this]

/-- What the bounds of a cut are, beside what T says. -/
theorem bounds_run {S : Nat → Prop} {U' L'} {isSlice : Bool} {len cap l hh : Nat} {lo hi : Option Value} {tlo thi : Option TV}
    (hlo : (lo = none ∧ tlo = none) ∨ ∃ x t, lo = some x ∧ tlo = some t ∧ RTV S U' L' w x t) (hhi : (hi = none ∧ thi = none) ∨ ∃ x t, hi = some x ∧ thi = some t ∧ RTV S U' L' w x t)
    (h1 : boundT 0 tlo = some l) (h2 : boundT len thi = some hh) (hle : l ≤ hh) (hcap : hh ≤ cap) :
    (Instr.sliceBounds isSlice len cap lo hi none).run P w = .ok (l, hh, cap) w := by
  have e1 : ∀ (t : Option TV) (d r : Nat), boundT d t = some r → (t = none ∧ d = r) ∨ ∃ kk j, t = some (.v false [.prim (.int kk j)]) ∧ 0 ≤ j ∧ j.toNat = r := by
    intro t d r he
    unfold boundT at he
    split at he
    · exact .inl ⟨rfl, Option.some.inj he⟩
    · split at he
      · exact .inr ⟨_, _, rfl, by assumption, Option.some.inj he⟩
      · cases he
    · cases he
  have hL : (lo = none ∧ l = 0) ∨ ∃ kk j, lo = some (.int kk j) ∧ 0 ≤ j ∧ j.toNat = l := by
    rcases hlo with ⟨rfl, rfl⟩ | ⟨x, t, rfl, rfl, hr⟩
    · simp [boundT] at h1; exact .inl ⟨rfl, h1.symm⟩
    · rcases e1 _ _ _ h1 with ⟨e, _⟩ | ⟨kk, j, e, h0, h3⟩
      · cases e
      · obtain rfl := Option.some.inj e
        exact .inr ⟨kk, j, by rw [rep_prim hr], h0, h3⟩
  have hH : (hi = none ∧ hh = len) ∨ ∃ kk j, hi = some (.int kk j) ∧ 0 ≤ j ∧ j.toNat = hh := by
    rcases hhi with ⟨rfl, rfl⟩ | ⟨x, t, rfl, rfl, hr⟩
    · simp [boundT] at h2; exact .inl ⟨rfl, h2.symm⟩
    · rcases e1 _ _ _ h2 with ⟨e, _⟩ | ⟨kk, j, e, h0, h3⟩
      · cases e
      · obtain rfl := Option.some.inj e
        exact .inr ⟨kk, j, by rw [rep_prim hr], h0, h3⟩
  clear hlo hhi h1 h2 e1
  rcases hL with ⟨rfl, rfl⟩ | ⟨k1, j1, rfl, h1, rfl⟩ <;> rcases hH with ⟨rfl, rfl⟩ | ⟨k2, j2, rfl, h2, rfl⟩
  · simp [Instr.sliceBounds]
  · have := fun c => bound_run (P := P) (w := w) (c := c) (kk := k2) h2 hcap rfl
    simp [Instr.sliceBounds, this]
  · have := fun c => bound_run (P := P) (w := w) (c := c) (kk := k1) h1 hle rfl
    simp [Instr.sliceBounds, this]
  · have a1 := fun c => bound_run (P := P) (w := w) (c := c) (kk := k1) h1 hle rfl
    have a2 := fun c => bound_run (P := P) (w := w) (c := c) (kk := k2) h2 hcap rfl
    simp [Instr.sliceBounds, a1, a2]

theorem snd_slice_str (m : Mem k h w L F U) {t : TypeId} {u : Value} {b : ByteArray} {lo hi : Option Value} {tlo thi : Option TV} {l hh : Nat}
    (hlo : (lo = none ∧ tlo = none) ∨ ∃ x t, lo = some x ∧ tlo = some t ∧ RTV (SS k h L F w) U L w x t) (hhi : (hi = none ∧ thi = none) ∨ ∃ x t, hi = some x ∧ thi = some t ∧ RTV (SS k h L F w) U L w x t)
    (hu : P.underlying t = some .string) (hx : RTV (SS k h L F w) U L w u (.v false [.prim (.string b)])) (h1 : boundT 0 tlo = some l) (h2 : boundT b.size thi = some hh) (hle : l ≤ hh) (hcap : hh ≤ b.size) :
    Snd k h w L F U nid ((do pure (Next.value (← Instr.sliceAt t u lo hi none)) : Sem Next).run P w) (.v false [.prim (.string (b.extract l hh))]) [] := by
  obtain rfl := rep_prim hx
  have hb := bounds_run (P := P) (w := w) (isSlice := false) (len := b.size) (cap := b.size) hlo hhi h1 h2 hle hcap
  exact snd_same m (v := .string (b.extract l hh)) (by simp [Instr.sliceAt, Instr.slice, run_underlying hu, hb]) (rtv_prim rfl)

theorem snd_slice (m : Mem k h w L F U) {t e : TypeId} {u : Value} {c c' : Cell} {lo hi : Option Value} {tlo thi : Option TV} {s n l hh : Nat}
    (hlo : (lo = none ∧ tlo = none) ∨ ∃ x t, lo = some x ∧ tlo = some t ∧ RTV (SS k h L F w) U L w x t) (hhi : (hi = none ∧ thi = none) ∨ ∃ x t, hi = some x ∧ thi = some t ∧ RTV (SS k h L F w) U L w x t)
    (hee : elemT P t = some e) (hs : szT P e = some s) (hx : RTV (SS k h L F w) U L w u (.v false [c]))
    (hnn : nOf c = some n) (h1 : boundT 0 tlo = some l) (h2 : boundT n thi = some hh) (he : sliceT c s l hh = some c') :
    Snd k h w L F U nid ((do pure (Next.value (← Instr.sliceAt t u lo hi none)) : Sem Next).run P w) (.v false [c']) [] := by
  have hu := elemT_some hee
  obtain ⟨i, hi', rfl⟩ := szT_some hs
  unfold sliceT at he
  split at he
  · rename_i hle
    split at he
    · obtain rfl := rep_nilc hx
      simp [nOf] at hnn
      subst hnn
      split at he
      · rename_i h0
        obtain rfl := Option.some.inj he
        subst h0
        obtain rfl : l = 0 := by omega
        have hb := bounds_run (P := P) (w := w) (isSlice := true) (len := 0) (cap := 0) hlo hhi h1 h2 hle (Nat.le_refl _)
        exact snd_same m (v := .slice none 0 0) (by simp [Instr.sliceAt, Instr.slice, run_underlying hu, hb, sizeOf, typeInfo, hi']) (.nils .nil)
      · cases he
    · rename_i n' s' cl
      simp [nOf] at hnn
      subst hnn
      split at he
      · rename_i hc
        obtain rfl := Option.some.inj he
        obtain ⟨hc1, rfl⟩ := hc
        cases hx with
        | @ro0 p cap _ _ _ _ h0 _ =>
          obtain rfl : hh = 0 := by omega
          obtain rfl : l = 0 := by omega
          have hb := bounds_run (P := P) (w := w) (isSlice := true) (len := 0) (cap := cap) hlo hhi h1 h2 hle (by omega)
          simp only [Nat.zero_mul, Nat.sub_self, List.take_zero]
          cases p with
          | none =>
            obtain rfl := h0 rfl
            exact snd_same m (v := .slice none 0 0) (by simp [Instr.sliceAt, Instr.slice, run_underlying hu, hb, sizeOf, typeInfo, hi']) (.ro0 (fun _ => rfl) .nil)
          | some a =>
            refine snd_same m (v := .slice (some a) 0 cap) ?_ (.ro0 (fun e => by cases e) .nil)
            simp [Instr.sliceAt, Instr.slice, run_underlying hu, hb, sizeOf, typeInfo, hi']
            intro _; simp [Addr.add]
        | @ro b o _ cap _ _ us _ _ _ g1 g2 g3 g4 hcl g5 hnil =>
          cases hnil
          have hb := bounds_run (P := P) (w := w) (isSlice := true) (len := n') (cap := cap) hlo hhi h1 h2 hle (by omega)
          have hlen : ((cl.drop (l * i.size)).take ((hh - l) * i.size)).length = (hh - l) * i.size := by
            have : hh * i.size ≤ n' * i.size := Nat.mul_le_mul_right _ hc1
            have e2 : (hh - l) * i.size = hh * i.size - l * i.size := Nat.sub_mul _ _ _
            simp; omega
          by_cases hm : cap = l
          · subst hm
            have : hh - cap = 0 := by omega
            refine snd_same m (v := .slice (some ⟨b, o, none⟩) (hh - cap) (cap - cap)) (by simp [Instr.sliceAt, Instr.slice, run_underlying hu, hb, sizeOf, typeInfo, hi']) ?_
            have hz : (cl.drop (cap * i.size)).take ((hh - cap) * i.size) = [] := by rw [this]; simp
            rw [hz]
            exact .ro (us := []) (fun hc => absurd rfl hc) (by simp [this]) (by omega) (rangeAt_nil _ _ _) rfl .nil .nil
          · refine snd_same m (v := .slice (some ⟨b, o + l * i.size, none⟩) (hh - l) (cap - l)) (by simp [Instr.sliceAt, Instr.slice, run_underlying hu, hb, sizeOf, typeInfo, hi', hm, Addr.add_mid]) ?_
            exact .ro (us := (us.drop (l * i.size)).take ((hh - l) * i.size)) (fun hne => g1 (fun e => hne (by rw [e]; simp))) hlen (by omega) (rangeAt_take (rangeAt_drop g4 _) _) (closedL_take _ _ (closedL_drop _ _ hcl)) (rep_take _ (rep_drop _ g5)) .nil
      · cases he
    · rename_i id off n' s'
      simp [nOf] at hnn
      subst hnn
      split at he
      · rename_i hc
        obtain ⟨hc1, rfl⟩ := hc
        cases hx with
        | ref0 hU hp _ =>
          obtain rfl : hh = 0 := by omega
          obtain rfl : l = 0 := by omega
          rw [if_pos rfl] at he
          obtain rfl := Option.some.inj he
          have hb := bounds_run (P := P) (w := w) (isSlice := true) (len := 0) (cap := 0) hlo hhi h1 h2 hle (Nat.le_refl _)
          rcases hp with rfl | ⟨b, o, rfl⟩
          · exact snd_same m (v := .slice none 0 0) (by simp [Instr.sliceAt, Instr.slice, run_underlying hu, hb, sizeOf, typeInfo, hi']) (.ro0 (fun _ => rfl) .nil)
          · exact snd_same m (v := .slice (some ⟨b, o, none⟩) 0 0) (by simp [Instr.sliceAt, Instr.slice, run_underlying hu, hb, sizeOf, typeInfo, hi']) (ro_zero (.inr ⟨_, _, rfl⟩) .nil)
        | @ref _ _ _ _ cap _ _ _ hU hW hn hz hnil =>
          cases hnil
          have hb := bounds_run (P := P) (w := w) (isSlice := true) (len := n') (cap := cap) hlo hhi h1 h2 hle (by omega)
          split at he
          · rename_i el
            obtain rfl := Option.some.inj he
            subst el
            by_cases hm : cap = l
            · subst hm
              refine snd_same m (v := .slice (some ⟨(L id).1, (L id).2 + off, none⟩) (cap - cap) (cap - cap)) (by simp [Instr.sliceAt, Instr.slice, run_underlying hu, hb, sizeOf, typeInfo, hi']) ?_
              rw [Nat.sub_self]
              exact .ro (us := []) (fun hc => absurd rfl hc) (by simp) (by omega) (rangeAt_nil _ _ _) rfl .nil .nil
            · refine snd_same m (v := .slice (some ⟨(L id).1, (L id).2 + off + l * i.size, none⟩) (l - l) (cap - l)) (by simp [Instr.sliceAt, Instr.slice, run_underlying hu, hb, sizeOf, typeInfo, hi', hm, Addr.add_mid]) ?_
              rw [Nat.sub_self]
              exact .ro (us := []) (fun hc => absurd rfl hc) (by simp) (by omega) (rangeAt_nil _ _ _) rfl .nil .nil
          · rename_i el
            obtain rfl := Option.some.inj he
            have hm : ¬ cap = l := by omega
            refine snd_same m (v := .slice (some ⟨(L id).1, (L id).2 + (off + l * i.size), none⟩) (hh - l) (cap - l)) (by simp [Instr.sliceAt, Instr.slice, run_underlying hu, hb, sizeOf, typeInfo, hi', hm, Addr.add_mid, Nat.add_assoc]) ?_
            refine .ref hU (hW.mono ?_) (by omega) (by omega) .nil
            have : (cap - l) * i.size = cap * i.size - l * i.size := Nat.sub_mul _ _ _
            have : l * i.size ≤ cap * i.size := Nat.mul_le_mul_right _ (by omega)
            omega
      · cases he
    · cases he
  · cases he

/-! ### Parts -/
theorem snd_field (m : Mem k h w L F U) {st : TypeId} {f : Nat} {fd : Field} {n : Nat} {r : Bool} {u : Value} {l : List Cell} (hf : fieldT P st f = some fd) (hs : szT P fd.type = some n) (hrw : rowT P fd.type = some r)
    (hx : RTV (SS k h L F w) U L w u (.v true l)) (hc : (r = true ∨ n = 1) ∧ fd.offset + n ≤ l.length) :
    Snd k h w L F U nid ((do pure (Next.value (← Instr.field st u f)) : Sem Next).run P w) (.v r ((l.drop fd.offset).take n)) [] := by
  obtain ⟨fs, hu, hfs⟩ := fieldT_some hf
  obtain ⟨i, hi, rfl⟩ := szT_some hs
  obtain ⟨vs, rfl, hr⟩ := hx
  have hl := hr.length
  have hlen : fd.offset + i.size ≤ vs.size := by simp at hl; omega
  have hr' := rep_take i.size (rep_drop fd.offset hr)
  unfold rowT at hrw
  cases hd : P.underlying fd.type with
  | none => simp [hd] at hrw
  | some d =>
    simp [hd] at hrw
    cases r with
    | true =>
      have hagg : (isAgg fd.type).run P w = .ok true w := by
        unfold isAgg
        rw [Sem.run_bind, run_underlying hd w]
        cases d <;> simp_all
      refine snd_same m (v := .agg (vs.extract fd.offset (fd.offset + i.size))) (by simp [Instr.field, run_underlying hu, hfs, part, hagg, sizeOf, typeInfo, hi, asAgg]) ⟨_, rfl, ?_⟩
      rw [Array.toList_extract, List.extract_eq_take_drop]
      simpa using hr'
    | false =>
      have h1 : i.size = 1 := hc.1.resolve_left (by simp)
      have hagg : (isAgg fd.type).run P w = .ok false w := by
        unfold isAgg
        rw [Sem.run_bind, run_underlying hd w]
        cases d <;> simp_all
      have hlt : fd.offset < vs.size := by omega
      refine snd_same m (v := vs[fd.offset]) (by simp [Instr.field, run_underlying hu, hfs, part, hagg, asAgg, hlt]) ?_
      rw [h1] at hr' ⊢
      rw [List.drop_eq_getElem_cons (l := vs.toList) (by simpa using hlt)] at hr'
      show Rep _ _ _ _ _ _ _
      simpa using hr'

theorem snd_extract (m : Mem k h w L F U) {u : Value} {i : Nat} {l : List (Bool × List Cell)} {b : Bool} {cs : List Cell} (hx : RTV (SS k h L F w) U L w u (.tup l)) (hi : l[i]? = some (b, cs)) :
    Snd k h w L F U nid ((do pure (Next.value (← Instr.extract u i)) : Sem Next).run P w) (.v b cs) [] := by
  obtain ⟨xs, rfl, hl, hr⟩ := hx
  have hlt : i < xs.size := by have := (List.getElem?_eq_some_iff.1 hi).1; simp at hl; omega
  refine snd_same m (v := xs[i]) (by simp [Instr.extract, hlt]) ?_
  exact hr i xs[i] (b, cs) (by simp [hlt]) hi

theorem snd_index_str (m : Mem k h w L F U) {t : TypeId} {u : Value} {b : ByteArray} {kk : IntKind} {j : Int} {c : UInt8} (hu : P.underlying t = some .string) (hx : RTV (SS k h L F w) U L w u (.v false [.prim (.string b)])) (hc : b.data.toList[j.toNat]? = some c) (h0 : 0 ≤ j) :
    Snd k h w L F U nid ((do pure (Next.value (← Instr.index t u (.int kk j))) : Sem Next).run P w) (.v false [.prim (.int .u8 c.toNat)]) [] := by
  obtain rfl := rep_prim hx
  have hc' : b[j.toNat]? = some c := by
    obtain ⟨hlt, e⟩ := List.getElem?_eq_some_iff.1 hc
    have hlt' : j.toNat < b.size := by simpa using hlt
    rw [getElem?_pos b j.toNat hlt']
    rw [← e]; rfl
  exact snd_same m (v := .int .u8 c.toNat) (by simp [Instr.index, asIntOf, run_underlying hu, h0, hc']) (rtv_prim rfl)

theorem snd_len (m : Mem k h w L F U) {t ty : TypeId} {u : Value} {tv : TV} {n : Nat} (hx : RTV (SS k h L F w) U L w u tv) (he : lenT P t tv = some n) :
    Snd k h w L F U nid ((do pure (Next.value (← Builtin.len_ #[t] ty #[u])) : Sem Next).run P w) (.v false [.prim (.int .i64 n)]) [] := by
  have sl : ∀ e a c, elemT P t = some e → u = .slice a n c → Snd k h w L F U nid ((do pure (Next.value (← Builtin.len_ #[t] ty #[u])) : Sem Next).run P w) (.v false [.prim (.int .i64 n)]) [] := by
    intro e a c h1 h2
    subst h2
    exact snd_same m (v := .int .i64 n) (by simp [Builtin.len_, run_underlying (elemT_some h1), goInt]) (rtv_prim rfl)
  unfold lenT at he
  split at he
  · split at he
    · rename_i hu
      obtain rfl := Option.some.inj he
      obtain rfl := rep_prim hx
      exact snd_same m (by simp [Builtin.len_, run_underlying hu, goInt]) (rtv_prim rfl)
    · cases he
  · obtain ⟨e, h1, h2⟩ := Option.map_eq_some_iff.1 he
    subst h2
    exact sl e _ _ h1 (rep_nilc hx)
  · rename_i o n' s' l
    obtain ⟨e, h1, h2⟩ := Option.map_eq_some_iff.1 he
    subst h2
    have : ∃ a c, u = .slice a n' c := by
      cases o with
      | false =>
        cases hx with
        | ro _ _ _ _ _ _ _ => exact ⟨_, _, rfl⟩
        | ro0 _ _ => exact ⟨_, _, rfl⟩
      | true =>
        have hx' : Rep (SS k h L F w) U L w [u] [.sl true n' s' l] [] := hx
        generalize hG : ([] : List Nat) = G at hx'
        cases hx' with
        | own _ _ _ _ _ _ _ _ => simp at hG
        | own0 _ _ => exact ⟨_, 0, rfl⟩
    obtain ⟨a, c, e2⟩ := this
    exact sl e a c h1 e2
  · rename_i id off n' s'
    obtain ⟨e, h1, h2⟩ := Option.map_eq_some_iff.1 he
    subst h2
    cases hx with
    | ref hU hW hn hz hnil => exact sl e _ _ h1 rfl
    | ref0 hU hp hnil => exact sl e _ _ h1 rfl
  · cases he

theorem snd_max (m : Mem k h w L F U) {tys : Array TypeId} {ty : TypeId} {u v : Value} {kk kk' : IntKind} {a b : Int} (hx : RTV (SS k h L F w) U L w u (.v false [.prim (.int kk a)])) (hy : RTV (SS k h L F w) U L w v (.v false [.prim (.int kk' b)])) :
    Snd k h w L F U nid ((do pure (Next.value (← Builtin.max_ tys ty #[u, v])) : Sem Next).run P w) (.v false [.prim (.int kk (if b > a then b else a))]) [] := by
  obtain rfl := rep_prim hx
  obtain rfl := rep_prim hy
  exact snd_same m (v := .int kk (if b > a then b else a)) (by simp [Builtin.max_, Builtin.max2]) (rtv_prim rfl)

theorem snd_min (m : Mem k h w L F U) {tys : Array TypeId} {ty : TypeId} {u v : Value} {kk kk' : IntKind} {a b : Int} (hx : RTV (SS k h L F w) U L w u (.v false [.prim (.int kk a)])) (hy : RTV (SS k h L F w) U L w v (.v false [.prim (.int kk' b)])) :
    Snd k h w L F U nid ((do pure (Next.value (← Builtin.min_ tys ty #[u, v])) : Sem Next).run P w) (.v false [.prim (.int kk (if b < a then b else a))]) [] := by
  obtain rfl := rep_prim hx
  obtain rfl := rep_prim hy
  exact snd_same m (v := .int kk (if b < a then b else a)) (by simp [Builtin.min_, Builtin.min2]) (rtv_prim rfl)
end

end Go.Proofs.Ytacfohamlkbpjaa
