/- Operations, and what runs to what. -/
import Derived.Test.YtopnaijeicknoaaGreatDoorKa
import Derived.Orders
import Derived.LoopN
import Derived.Tactics
namespace Go.Proofs.YtopnaijeicknoaaGreatDoor

section
open Go Go.RowKit

section
variable {k : Base} {h : Nat → Option Node} {w : World} {L : Nat → Nat × Nat} {F : Nat → List Nat} {U : Nat → Prop} {nid : Nat} {P : Program}

theorem snd_conv_int (m : Mem k h w L F U) {s d : TypeId} {u : Value} {ds : TypeDesc} {kk kk' : IntKind} {n : Int} (hs : P.underlying s = some ds) (hd : P.underlying d = some (.int kk)) (hx : RTV (SS k h L F w) U L w u (.v false [.prim (.int kk' n)])) :
    Snd k h w L F U nid ((do pure (Next.value (← convert s d u)) : Sem Next).run P w) (.v false [.prim (.int kk (kk.wrap n))]) [] := by
  obtain rfl := rep_prim hx
  exact snd_same m (v := .int kk (kk.wrap n)) (by simp [convert, run_underlying hs, run_underlying hd, Conv.intToInt]) (rtv_prim rfl)

theorem snd_conv_str (m : Mem k h w L F U) {s d : TypeId} {u : Value} {b : ByteArray} (hs : P.underlying s = some .string) (hd : P.underlying d = some .string) (hx : RTV (SS k h L F w) U L w u (.v false [.prim (.string b)])) :
    Snd k h w L F U nid ((do pure (Next.value (← convert s d u)) : Sem Next).run P w) (.v false [.prim (.string b)]) [] := by
  obtain rfl := rep_prim hx
  exact snd_same m (v := .string b) (by simp [convert, run_underlying hs, run_underlying hd]) (rtv_prim rfl)

theorem snd_conv_bytes (m : Mem k h w L F U) {s d e : TypeId} {u : Value} {b : ByteArray} (hs : P.underlying s = some .string) (hd : P.underlying d = some (.slice e)) (he : P.underlying e = some (.int .u8))
    (hx : RTV (SS k h L F w) U L w u (.v false [.prim (.string b)])) :
    Snd k h w L F U nid ((do pure (Next.value (← convert s d u)) : Sem Next).run P w) (.v false [.sl false b.size 1 (byteC b.data.toList)]) [] := by
  obtain rfl := rep_prim hx
  have hr := Lib.run_convert_string_bytes w s d e b hs hd he
  have hnew := Lib.bytesWorld_at_new w e b
  have hsz := Lib.bytesWorld_size w e b
  have hge := grownCap_ge w b.size 0 e
  have g : Grows w (Lib.bytesWorld w e b) := ⟨by omega, fun x c e' fr hb => ⟨c, by rw [Lib.bytesWorld_at_old w e b x (Array.getElem?_eq_some_iff.1 hb).1]; exact hb, rfl⟩⟩
  obtain ⟨m', mo⟩ := m.master (h' := h) (w' := Lib.bytesWorld w e b) (L' := L) (F' := F) (U' := U) g (by simp [Lib.bytesWorld, World.freeze, World.alloc, World.drew, -World.alloc_eq, -World.drew_eq]) (by simp [Lib.bytesWorld, World.freeze, World.alloc, World.drew, -World.alloc_eq, -World.drew_eq]) (by simp [Lib.bytesWorld, World.freeze, World.alloc, World.drew, -World.alloc_eq, -World.drew_eq])
    (fun i b hb => .inl ⟨i, hb⟩) m.nodup m.disj (fun x hx _ => Lib.bytesWorld_at_old w e b x hx) (fun i hi => ⟨hi, rfl⟩)
    (fun mo id nd hid => m.keep mo hid rfl (fun x hx => Lib.bytesWorld_at_old w e b x (Own.lt m hx)))
  refine ⟨_, _, _, _, _, by rw [Sem.run_bind, hr]; rfl, .inl ⟨_, rfl, ?_⟩, m', mo, fun i hi => .inl hi⟩
  have hra : (Lib.bytesWorld w e b).rangeAt w.heap.size 0 (byteCells b) := by
    intro j v hv
    have hj : j < b.size := by rw [← byteCells_length]; exact (List.getElem?_eq_some_iff.1 hv).1
    have h1 := Lib.bytesWorld_cell w e b j hj
    simp only [Nat.zero_add]
    rw [h1, ← hv, byteCells, List.getElem?_map]
    have : j < b.data.toList.length := by simpa using hj
    simp [List.getD, List.getElem?_eq_getElem this]
  have hlen : (byteC b.data.toList).length = b.size * 1 := by simp [byteC]
  have hcl : ∀ l : List UInt8, closedL (byteC l) = true := by
    intro l
    induction l with
    | nil => rfl
    | cons a l ih => simpa [byteC, closedL, Cell.closed] using ih
  exact .ro (fun _ => ⟨.inr (.inr m.grows.1), by omega, fun i hi => by have := Own.lt m hi; omega⟩) hlen hge hra (hcl _) (byteC_rep b) .nil

theorem strOf_ints : ∀ {N : List Cell} {bs : List UInt8}, strOf N = some bs → ∃ ns : List Int, N = ns.map (fun n => .prim (.int .u8 n)) ∧ bs = ns.map fun n => UInt8.ofNat n.toNat
  | [], bs, he => by simp [strOf] at he; subst he; exact ⟨[], rfl, rfl⟩
  | c :: N, bs, he => by
    unfold strOf at he
    split at he
    · rename_i e; cases e
    · rename_i n l e
      obtain ⟨rfl, rfl⟩ := List.cons.inj e
      cases hs : strOf N with
      | none => simp [hs] at he
      | some b' =>
        simp [hs] at he
        obtain ⟨ns, h1, h2⟩ := strOf_ints hs
        exact ⟨n :: ns, by simp [h1], by rw [← he, h2]; rfl⟩
    · cases he

theorem foldl_push : ∀ (ns : List Int) (r : ByteArray), ns.foldl (fun r n => r.push (UInt8.ofNat n.toNat)) r = ⟨(r.data.toList ++ ns.map fun n => UInt8.ofNat n.toNat).toArray⟩
  | [], r => by simp
  | n :: ns, r => by
    rw [List.foldl_cons, foldl_push ns]
    simp [ByteArray.push]

theorem rep_ints {S : Nat → Prop} {U L w} : ∀ {ns : List Int} {us : List Value}, Rep S U L w us (ns.map fun n => .prim (.int .u8 n)) [] → us = ns.map (Value.int .u8)
  | [], us, hr => by have := hr.length; simpa using this
  | n :: ns, us, hr => by
    cases hr with
    | prim _ hr => rw [rep_ints hr]; rfl

theorem snd_conv_text (m : Mem k h w L F U) {s d e : TypeId} {u : Value} {tv : TV} {n : Nat} {N : List Cell} {bs : List UInt8} (hs : P.underlying s = some (.slice e)) (hd : P.underlying d = some .string) (he : P.underlying e = some (.int .u8))
    (hx : RTV (SS k h L F w) U L w u tv) (hsrc : srcT h 1 tv = some (n, N)) (hp : ∀ v, tv ≠ .v false [.prim v]) (hN : strOf N = some bs) :
    Snd k h w L F U nid ((do pure (Next.value (← convert s d u)) : Sem Next).run P w) (.v false [.prim (.string ⟨bs.toArray⟩)]) [] := by
  obtain ⟨ns, rfl, rfl⟩ := strOf_ints hN
  have main : ∀ (a : Addr) (len cap : Nat) (us : List Value), us.length = len → (∀ (j : Nat) (u : Value), us[j]? = some u → w.cell? (a.add j) = some u) → Rep (SS k h L F w) U L w us (ns.map fun n => .prim (.int .u8 n)) [] →
      (convert s d (.slice (some a) len cap)).run P w = .ok (.string ⟨(ns.map fun n => UInt8.ofNat n.toNat).toArray⟩) w := by
    intro a len cap us h1 h2 h3
    have e := rep_ints h3
    have hl : (loadCells a len).run P w = .ok (ns.map (Value.int .u8)).toArray w := by rw [← h1, ← e]; exact run_loadCells_list (P := P) w a us h2
    have := run_bytesToString w a len cap ns hl
    rw [foldl_push] at this
    have hsd : (s == d) = false := by
      rw [beq_eq_false_iff_ne]; intro e; subst e; rw [hs] at hd; cases hd
    simp [convert, run_underlying hs, run_underlying hd, run_underlying he, this]
  unfold srcT at hsrc
  split at hsrc
  · obtain ⟨_, h2⟩ := Prod.mk.inj (Option.some.inj hsrc)
    obtain rfl : ns = [] := by simpa using h2.symm
    obtain rfl := rep_nilc hx
    exact snd_same m (v := .string .empty) (by simp [convert, run_underlying hs, run_underlying hd, run_underlying he, Conv.bytesToString]) (rtv_prim rfl)
  · rename_i n' s' l
    split at hsrc
    · obtain ⟨rfl, el⟩ := Prod.mk.inj (Option.some.inj hsrc)
      rename_i es
      subst es
      cases hx with
      | @ro0 p cap _ _ _ _ h0 _ =>
        obtain rfl : ns = [] := by simpa using el.symm
        cases p with
        | some a => exact snd_same m (by simp [main a 0 cap [] rfl (fun j u h => by simp at h) .nil]) (rtv_prim rfl)
        | none =>
        obtain rfl := h0 rfl
        exact snd_same m (v := .string .empty) (by simp [convert, run_underlying hs, run_underlying hd, run_underlying he, Conv.bytesToString]) (rtv_prim rfl)
      | @ro b o _ cap _ _ us _ _ _ h1 h2 h3 h4 hcl h5 hnil =>
        cases hnil
        subst el
        exact snd_same m (by simp [main _ _ cap us (by rw [h5.length, h2, Nat.mul_one]) (rangeAt_add h4) h5]) (rtv_prim rfl)
    · cases hsrc
  · rename_i id off n' s'
    split at hsrc
    · rename_i o cs hid
      split at hsrc
      · rename_i hc
        obtain ⟨rfl, e2⟩ := Prod.mk.inj (Option.some.inj hsrc)
        obtain ⟨rfl, hc1, hc2⟩ := hc
        obtain ⟨_, us, h1, h2, h3, _⟩ := m.node id _ hid
        simp only at h2
        have hr := rep_mid off (n' * 1) h2 hc2
        have hl := h2.length
        rw [e2] at hr
        cases hx with
        | ref0 hU hpp _ =>
          have e0 : ns = [] := by simpa using e2.symm
          subst e0
          rcases hpp with rfl | ⟨b, o, rfl⟩
          · exact snd_same m (v := .string .empty) (by simp [convert, run_underlying hs, run_underlying hd, run_underlying he, Conv.bytesToString]) (rtv_prim rfl)
          · exact snd_same m (by simp [main ⟨b, o, none⟩ 0 0 [] rfl (fun j u h => by simp at h) .nil]) (rtv_prim rfl)
        | @ref _ _ _ _ cap _ _ _ hU hW hn hz hnil =>
          cases hnil
          exact snd_same m (by simp [main ⟨(L id).1, (L id).2 + off, none⟩ n' cap ((us.drop off).take (n' * 1)) (by simp; omega) (rangeAt_add (rangeAt_take (rangeAt_drop h1 off) (n' * 1))) hr]) (rtv_prim rfl)
      · cases hsrc
    · cases hsrc
  · exact absurd rfl (hp _)
  · cases hsrc

/-! ### Cuts -/
theorem bound_run {c : BoundsCode} {x : Value} {j : Int} {kk : IntKind} {y : Nat} (h0 : 0 ≤ j) (hy : j.toNat ≤ y) (hx : x = .int kk j) : (Instr.sliceBound x y c).run P w = .ok j.toNat w := by
  subst hx
  have : 0 ≤ j ∧ j ≤ (y : Int) := ⟨h0, by omega⟩
  simp [Instr.sliceBound, asIntOf, this]

/-- What the bounds of a cut are, beside what T says. -/
theorem bounds_run {S : Nat → Prop} {U' L'} {isSlice : Bool} {len cap l hh : Nat} {lo hi : Option Value} {tlo thi : Option TV}
    (hlo : (lo = none ∧ tlo = none) ∨ ∃ x t, lo = some x ∧ tlo = some t ∧ RTV S U' L' w x t) (hhi : (hi = none ∧ thi = none) ∨ ∃ x t, hi = some x ∧ thi = some t ∧ RTV S U' L' w x t)
    (h1 : boundT 0 tlo = some l) (h2 : boundT len thi = some hh) (hle : l ≤ hh) (hcap : hh ≤ cap) :
    (Instr.sliceBounds isSlice len cap lo hi none).run P w = .ok (l, hh, cap) w := by
  have e1 : ∀ (t : Option TV) (d r : Nat), boundT d t = some r → (t = none ∧ d = r) ∨ ∃ kk j, t = some (.v false [.prim (.int kk j)]) ∧ 0 ≤ j ∧ j.toNat = r := by
    intro t d r he
    unfold boundT at he
    split at he
    · exact .inl ⟨rfl, Option.some.inj he⟩
    · split at he
      · exact .inr ⟨_, _, rfl, by assumption, Option.some.inj he⟩
      · cases he
    · cases he
  have hL : (lo = none ∧ l = 0) ∨ ∃ kk j, lo = some (.int kk j) ∧ 0 ≤ j ∧ j.toNat = l := by
    rcases hlo with ⟨rfl, rfl⟩ | ⟨x, t, rfl, rfl, hr⟩
    · simp [boundT] at h1; exact .inl ⟨rfl, h1.symm⟩
    · rcases e1 _ _ _ h1 with ⟨e, _⟩ | ⟨kk, j, e, h0, h3⟩
      · cases e
      · obtain rfl := Option.some.inj e
        exact .inr ⟨kk, j, by rw [rep_prim hr], h0, h3⟩
  have hH : (hi = none ∧ hh = len) ∨ ∃ kk j, hi = some (.int kk j) ∧ 0 ≤ j ∧ j.toNat = hh := by
    rcases hhi with ⟨rfl, rfl⟩ | ⟨x, t, rfl, rfl, hr⟩
    · simp [boundT] at h2; exact .inl ⟨rfl, h2.symm⟩
    · rcases e1 _ _ _ h2 with ⟨e, _⟩ | ⟨kk, j, e, h0, h3⟩
      · cases e
      · obtain rfl := Option.some.inj e
        exact .inr ⟨kk, j, by rw [rep_prim hr], h0, h3⟩
  clear hlo hhi h1 h2 e1
  rcases hL with ⟨rfl, rfl⟩ | ⟨k1, j1, rfl, h1, rfl⟩ <;> rcases hH with ⟨rfl, rfl⟩ | ⟨k2, j2, rfl, h2, rfl⟩
  · simp [Instr.sliceBounds]
  · have := fun c => bound_run (P := P) (w := w) (c := c) (kk := k2) h2 hcap rfl
    simp [Instr.sliceBounds, this]
  · have := fun c => bound_run (P := P) (w := w) (c := c) (kk := k1) h1 hle rfl
    simp [Instr.sliceBounds, this]
  · have a1 := fun c => bound_run (P := P) (w := w) (c := c) (kk := k1) h1 hle rfl
    have a2 := fun c => bound_run (P := P) (w := w) (c := c) (kk := k2) h2 hcap rfl
    simp [Instr.sliceBounds, a1, a2]

theorem snd_slice_str (m : Mem k h w L F U) {t : TypeId} {u : Value} {b : ByteArray} {lo hi : Option Value} {tlo thi : Option TV} {l hh : Nat}
    (hlo : (lo = none ∧ tlo = none) ∨ ∃ x t, lo = some x ∧ tlo = some t ∧ RTV (SS k h L F w) U L w x t) (hhi : (hi = none ∧ thi = none) ∨ ∃ x t, hi = some x ∧ thi = some t ∧ RTV (SS k h L F w) U L w x t)
    (hu : P.underlying t = some .string) (hx : RTV (SS k h L F w) U L w u (.v false [.prim (.string b)])) (h1 : boundT 0 tlo = some l) (h2 : boundT b.size thi = some hh) (hle : l ≤ hh) (hcap : hh ≤ b.size) :
    Snd k h w L F U nid ((do pure (Next.value (← Instr.sliceAt t u lo hi none)) : Sem Next).run P w) (.v false [.prim (.string (b.extract l hh))]) [] := by
  obtain rfl := rep_prim hx
  have hb := bounds_run (P := P) (w := w) (isSlice := false) (len := b.size) (cap := b.size) hlo hhi h1 h2 hle hcap
  exact snd_same m (v := .string (b.extract l hh)) (by simp [Instr.sliceAt, Instr.slice, run_underlying hu, hb]) (rtv_prim rfl)

theorem snd_slice (m : Mem k h w L F U) {t e : TypeId} {u : Value} {c c' : Cell} {lo hi : Option Value} {tlo thi : Option TV} {s n l hh : Nat}
    (hlo : (lo = none ∧ tlo = none) ∨ ∃ x t, lo = some x ∧ tlo = some t ∧ RTV (SS k h L F w) U L w x t) (hhi : (hi = none ∧ thi = none) ∨ ∃ x t, hi = some x ∧ thi = some t ∧ RTV (SS k h L F w) U L w x t)
    (hee : elemT P t = some e) (hs : szT P e = some s) (hx : RTV (SS k h L F w) U L w u (.v false [c]))
    (hnn : nOf c = some n) (h1 : boundT 0 tlo = some l) (h2 : boundT n thi = some hh) (he : sliceT c s l hh = some c') :
    Snd k h w L F U nid ((do pure (Next.value (← Instr.sliceAt t u lo hi none)) : Sem Next).run P w) (.v false [c']) [] := by
  have hu := elemT_some hee
  obtain ⟨i, hi', rfl⟩ := szT_some hs
  unfold sliceT at he
  split at he
  · rename_i hle
    split at he
    · obtain rfl := rep_nilc hx
      simp [nOf] at hnn
      subst hnn
      split at he
      · rename_i h0
        obtain rfl := Option.some.inj he
        subst h0
        obtain rfl : l = 0 := by omega
        have hb := bounds_run (P := P) (w := w) (isSlice := true) (len := 0) (cap := 0) hlo hhi h1 h2 hle (Nat.le_refl _)
        exact snd_same m (v := .slice none 0 0) (by simp [Instr.sliceAt, Instr.slice, run_underlying hu, hb, sizeOf, typeInfo, hi']) (.nils .nil)
      · cases he
    · rename_i n' s' cl
      simp [nOf] at hnn
      subst hnn
      split at he
      · rename_i hc
        obtain rfl := Option.some.inj he
        obtain ⟨hc1, rfl⟩ := hc
        cases hx with
        | @ro0 p cap _ _ _ _ h0 _ =>
          obtain rfl : hh = 0 := by omega
          obtain rfl : l = 0 := by omega
          have hb := bounds_run (P := P) (w := w) (isSlice := true) (len := 0) (cap := cap) hlo hhi h1 h2 hle (by omega)
          simp only [Nat.zero_mul, Nat.sub_self, List.take_zero]
          cases p with
          | none =>
            obtain rfl := h0 rfl
            exact snd_same m (v := .slice none 0 0) (by simp [Instr.sliceAt, Instr.slice, run_underlying hu, hb, sizeOf, typeInfo, hi']) (.ro0 (fun _ => rfl) .nil)
          | some a =>
            refine snd_same m (v := .slice (some a) 0 cap) ?_ (.ro0 (fun e => by cases e) .nil)
            simp [Instr.sliceAt, Instr.slice, run_underlying hu, hb, sizeOf, typeInfo, hi']
            intro _; simp [Addr.add]
        | @ro b o _ cap _ _ us _ _ _ g1 g2 g3 g4 hcl g5 hnil =>
          cases hnil
          have hb := bounds_run (P := P) (w := w) (isSlice := true) (len := n') (cap := cap) hlo hhi h1 h2 hle (by omega)
          have hlen : ((cl.drop (l * i.size)).take ((hh - l) * i.size)).length = (hh - l) * i.size := by
            have : hh * i.size ≤ n' * i.size := Nat.mul_le_mul_right _ hc1
            have e2 : (hh - l) * i.size = hh * i.size - l * i.size := Nat.sub_mul _ _ _
            simp; omega
          by_cases hm : cap = l
          · subst hm
            have : hh - cap = 0 := by omega
            refine snd_same m (v := .slice (some ⟨b, o, none⟩) (hh - cap) (cap - cap)) (by simp [Instr.sliceAt, Instr.slice, run_underlying hu, hb, sizeOf, typeInfo, hi']) ?_
            have hz : (cl.drop (cap * i.size)).take ((hh - cap) * i.size) = [] := by rw [this]; simp
            rw [hz]
            exact .ro (us := []) (fun hc => absurd rfl hc) (by simp [this]) (by omega) (rangeAt_nil _ _ _) rfl .nil .nil
          · refine snd_same m (v := .slice (some ⟨b, o + l * i.size, none⟩) (hh - l) (cap - l)) (by simp [Instr.sliceAt, Instr.slice, run_underlying hu, hb, sizeOf, typeInfo, hi', hm, Addr.add_mid]) ?_
            exact .ro (us := (us.drop (l * i.size)).take ((hh - l) * i.size)) (fun hne => g1 (fun e => hne (by rw [e]; simp))) hlen (by omega) (rangeAt_take (rangeAt_drop g4 _) _) (closedL_take _ _ (closedL_drop _ _ hcl)) (rep_take _ (rep_drop _ g5)) .nil
      · cases he
    · rename_i id off n' s'
      simp [nOf] at hnn
      subst hnn
      split at he
      · rename_i hc
        obtain ⟨hc1, rfl⟩ := hc
        cases hx with
        | ref0 hU hp _ =>
          obtain rfl : hh = 0 := by omega
          obtain rfl : l = 0 := by omega
          rw [if_pos rfl] at he
          obtain rfl := Option.some.inj he
          have hb := bounds_run (P := P) (w := w) (isSlice := true) (len := 0) (cap := 0) hlo hhi h1 h2 hle (Nat.le_refl _)
          rcases hp with rfl | ⟨b, o, rfl⟩
          · exact snd_same m (v := .slice none 0 0) (by simp [Instr.sliceAt, Instr.slice, run_underlying hu, hb, sizeOf, typeInfo, hi']) (.ro0 (fun _ => rfl) .nil)
          · exact snd_same m (v := .slice (some ⟨b, o, none⟩) 0 0) (by simp [Instr.sliceAt, Instr.slice, run_underlying hu, hb, sizeOf, typeInfo, hi']) (ro_zero (.inr ⟨_, _, rfl⟩) .nil)
        | @ref _ _ _ _ cap _ _ _ hU hW hn hz hnil =>
          cases hnil
          have hb := bounds_run (P := P) (w := w) (isSlice := true) (len := n') (cap := cap) hlo hhi h1 h2 hle (by omega)
          split at he
          · rename_i el
            obtain rfl := Option.some.inj he
            subst el
            by_cases hm : cap = l
            · subst hm
              refine snd_same m (v := .slice (some ⟨(L id).1, (L id).2 + off, none⟩) (cap - cap) (cap - cap)) (by simp [Instr.sliceAt, Instr.slice, run_underlying hu, hb, sizeOf, typeInfo, hi']) ?_
              rw [Nat.sub_self]
              exact .ro (us := []) (fun hc => absurd rfl hc) (by simp) (by omega) (rangeAt_nil _ _ _) rfl .nil .nil
            · refine snd_same m (v := .slice (some ⟨(L id).1, (L id).2 + off + l * i.size, none⟩) (l - l) (cap - l)) (by simp [Instr.sliceAt, Instr.slice, run_underlying hu, hb, sizeOf, typeInfo, hi', hm, Addr.add_mid]) ?_
              rw [Nat.sub_self]
              exact .ro (us := []) (fun hc => absurd rfl hc) (by simp) (by omega) (rangeAt_nil _ _ _) rfl .nil .nil
          · rename_i el
            obtain rfl := Option.some.inj he
            have hm : ¬ cap = l := by omega
            refine snd_same m (v := .slice (some ⟨(L id).1, (L id).2 + (off + l * i.size), none⟩) (hh - l) (cap - l)) (by simp [Instr.sliceAt, Instr.slice, run_underlying hu, hb, sizeOf, typeInfo, hi', hm, Addr.add_mid, Nat.add_assoc]) ?_
            refine .ref hU (hW.mono ?_) (by omega) (by omega) .nil
            have : (cap - l) * i.size = cap * i.size - l * i.size := Nat.sub_mul _ _ _
            have : l * i.size ≤ cap * i.size := Nat.mul_le_mul_right _ (by omega)
            omega
      · cases he
    · cases he
  · cases he

/-! ### Parts -/
theorem snd_field (m : Mem k h w L F U) {st : TypeId} {f : Nat} {fd : Field} {n : Nat} {r : Bool} {u : Value} {l : List Cell} (hf : fieldT P st f = some fd) (hs : szT P fd.type = some n) (hrw : rowT P fd.type = some r)
    (hx : RTV (SS k h L F w) U L w u (.v true l)) (hc : (r = true ∨ n = 1) ∧ fd.offset + n ≤ l.length) :
    Snd k h w L F U nid ((do pure (Next.value (← Instr.field st u f)) : Sem Next).run P w) (.v r ((l.drop fd.offset).take n)) [] := by
  obtain ⟨fs, hu, hfs⟩ := fieldT_some hf
  obtain ⟨i, hi, rfl⟩ := szT_some hs
  obtain ⟨vs, rfl, hr⟩ := hx
  have hl := hr.length
  have hlen : fd.offset + i.size ≤ vs.size := by simp at hl; omega
  have hr' := rep_take i.size (rep_drop fd.offset hr)
  unfold rowT at hrw
  cases hd : P.underlying fd.type with
  | none => simp [hd] at hrw
  | some d =>
    simp [hd] at hrw
    cases r with
    | true =>
      have hagg : (isAgg fd.type).run P w = .ok true w := by
        unfold isAgg
        rw [Sem.run_bind, run_underlying hd w]
        cases d <;> simp_all
      refine snd_same m (v := .agg (vs.extract fd.offset (fd.offset + i.size))) (by simp [Instr.field, run_underlying hu, hfs, part, hagg, sizeOf, typeInfo, hi, asAgg]) ⟨_, rfl, ?_⟩
      rw [Array.toList_extract, List.extract_eq_take_drop]
      simpa using hr'
    | false =>
      have h1 : i.size = 1 := hc.1.resolve_left (by simp)
      have hagg : (isAgg fd.type).run P w = .ok false w := by
        unfold isAgg
        rw [Sem.run_bind, run_underlying hd w]
        cases d <;> simp_all
      have hlt : fd.offset < vs.size := by omega
      refine snd_same m (v := vs[fd.offset]) (by simp [Instr.field, run_underlying hu, hfs, part, hagg, asAgg, hlt]) ?_
      rw [h1] at hr' ⊢
      rw [List.drop_eq_getElem_cons (l := vs.toList) (by simpa using hlt)] at hr'
      show Rep _ _ _ _ _ _ _
      simpa using hr'

theorem snd_extract (m : Mem k h w L F U) {u : Value} {i : Nat} {l : List (Bool × List Cell)} {b : Bool} {cs : List Cell} (hx : RTV (SS k h L F w) U L w u (.tup l)) (hi : l[i]? = some (b, cs)) :
    Snd k h w L F U nid ((do pure (Next.value (← Instr.extract u i)) : Sem Next).run P w) (.v b cs) [] := by
  obtain ⟨xs, rfl, hl, hr⟩ := hx
  have hlt : i < xs.size := by have := (List.getElem?_eq_some_iff.1 hi).1; simp at hl; omega
  refine snd_same m (v := xs[i]) (by simp [Instr.extract, hlt]) ?_
  exact hr i xs[i] (b, cs) (by simp [hlt]) hi

theorem snd_index_str (m : Mem k h w L F U) {t : TypeId} {u : Value} {b : ByteArray} {kk : IntKind} {j : Int} {c : UInt8} (hu : P.underlying t = some .string) (hx : RTV (SS k h L F w) U L w u (.v false [.prim (.string b)])) (hc : b.data.toList[j.toNat]? = some c) (h0 : 0 ≤ j) :
    Snd k h w L F U nid ((do pure (Next.value (← Instr.index t u (.int kk j))) : Sem Next).run P w) (.v false [.prim (.int .u8 c.toNat)]) [] := by
  obtain rfl := rep_prim hx
  have hc' : b[j.toNat]? = some c := by
    obtain ⟨hlt, e⟩ := List.getElem?_eq_some_iff.1 hc
    have hlt' : j.toNat < b.size := by simpa using hlt
    rw [getElem?_pos b j.toNat hlt']
    rw [← e]; rfl
  exact snd_same m (v := .int .u8 c.toNat) (by simp [Instr.index, asIntOf, run_underlying hu, h0, hc']) (rtv_prim rfl)

theorem snd_len (m : Mem k h w L F U) {t ty : TypeId} {u : Value} {tv : TV} {n : Nat} (hx : RTV (SS k h L F w) U L w u tv) (he : lenT P t tv = some n) :
    Snd k h w L F U nid ((do pure (Next.value (← Builtin.len_ #[t] ty #[u])) : Sem Next).run P w) (.v false [.prim (.int .i64 n)]) [] := by
  have sl : ∀ e a c, elemT P t = some e → u = .slice a n c → Snd k h w L F U nid ((do pure (Next.value (← Builtin.len_ #[t] ty #[u])) : Sem Next).run P w) (.v false [.prim (.int .i64 n)]) [] := by
    intro e a c h1 h2
    subst h2
    exact snd_same m (v := .int .i64 n) (by simp [Builtin.len_, run_underlying (elemT_some h1), goInt]) (rtv_prim rfl)
  unfold lenT at he
  split at he
  · split at he
    · rename_i hu
      obtain rfl := Option.some.inj he
      obtain rfl := rep_prim hx
      exact snd_same m (by simp [Builtin.len_, run_underlying hu, goInt]) (rtv_prim rfl)
    · cases he
  · obtain ⟨e, h1, h2⟩ := Option.map_eq_some_iff.1 he
    subst h2
    exact sl e _ _ h1 (rep_nilc hx)
  · rename_i o n' s' l
    obtain ⟨e, h1, h2⟩ := Option.map_eq_some_iff.1 he
    subst h2
    have : ∃ a c, u = .slice a n' c := by
      cases o with
      | false =>
        cases hx with
        | ro _ _ _ _ _ _ _ => exact ⟨_, _, rfl⟩
        | ro0 _ _ => exact ⟨_, _, rfl⟩
      | true =>
        have hx' : Rep (SS k h L F w) U L w [u] [.sl true n' s' l] [] := hx
        generalize hG : ([] : List Nat) = G at hx'
        cases hx' with
        | own _ _ _ _ _ _ _ _ => simp at hG
        | own0 _ _ => exact ⟨_, 0, rfl⟩
    obtain ⟨a, c, e2⟩ := this
    exact sl e a c h1 e2
  · rename_i id off n' s'
    obtain ⟨e, h1, h2⟩ := Option.map_eq_some_iff.1 he
    subst h2
    cases hx with
    | ref hU hW hn hz hnil => exact sl e _ _ h1 rfl
    | ref0 hU hp hnil => exact sl e _ _ h1 rfl
  · cases he

theorem snd_max (m : Mem k h w L F U) {tys : Array TypeId} {ty : TypeId} {u v : Value} {kk kk' : IntKind} {a b : Int} (hx : RTV (SS k h L F w) U L w u (.v false [.prim (.int kk a)])) (hy : RTV (SS k h L F w) U L w v (.v false [.prim (.int kk' b)])) :
    Snd k h w L F U nid ((do pure (Next.value (← Builtin.max_ tys ty #[u, v])) : Sem Next).run P w) (.v false [.prim (.int kk (if b > a then b else a))]) [] := by
  obtain rfl := rep_prim hx
  obtain rfl := rep_prim hy
  exact snd_same m (v := .int kk (if b > a then b else a)) (by simp [Builtin.max_, Builtin.max2]) (rtv_prim rfl)

theorem snd_min (m : Mem k h w L F U) {tys : Array TypeId} {ty : TypeId} {u v : Value} {kk kk' : IntKind} {a b : Int} (hx : RTV (SS k h L F w) U L w u (.v false [.prim (.int kk a)])) (hy : RTV (SS k h L F w) U L w v (.v false [.prim (.int kk' b)])) :
    Snd k h w L F U nid ((do pure (Next.value (← Builtin.min_ tys ty #[u, v])) : Sem Next).run P w) (.v false [.prim (.int kk (if b < a then b else a))]) [] := by
  obtain rfl := rep_prim hx
  obtain rfl := rep_prim hy
  exact snd_same m (v := .int kk (if b < a then b else a)) (by simp [Builtin.min_, Builtin.min2]) (rtv_prim rfl)
end
end

section
open Go Go.RowKit

section
variable {k : Base} {h : Nat → Option Node} {w : World} {L : Nat → Nat × Nat} {F : Nat → List Nat} {U : Nat → Prop} {nid : Nat} {P : Program}

theorem parts_fit {S U' : Nat → Prop} {L' : Nat → Nat × Nat} {w' : World} {ρ : Operand → Value} {ev : Operand → TV} (hev : ∀ x, RTV S U' L' w' (ρ x) (ev x)) (parts : Array (Nat × Operand)) :
    (parts.map fun (p : Nat × Operand) => (p.1, ρ p.2)).toList.length = (parts.toList.map fun p => (p.1, ev p.2)).length ∧
    ∀ (j : Nat) (p : Nat × Value) (q : Nat × TV), (parts.map fun (p : Nat × Operand) => (p.1, ρ p.2)).toList[j]? = some p → (parts.toList.map fun p => (p.1, ev p.2))[j]? = some q → p.1 = q.1 ∧ RTV S U' L' w' p.2 q.2 := by
  refine ⟨by simp, fun j p q hp hq => ?_⟩
  rw [Array.toList_map, List.getElem?_map] at hp
  rw [List.getElem?_map] at hq
  cases hj : parts.toList[j]? with
  | none => rw [hj] at hp; cases hp
  | some x =>
    rw [hj] at hp hq
    obtain rfl := Option.some.inj hp
    obtain rfl := Option.some.inj hq
    exact ⟨rfl, hev _⟩

theorem opt_fit {S U' : Nat → Prop} {L' : Nat → Nat × Nat} {w' : World} {ρ : Operand → Value} {ev : Operand → TV} (hev : ∀ x, RTV S U' L' w' (ρ x) (ev x)) (x : Option Operand) :
    (x.map ρ = none ∧ x.map ev = none) ∨ ∃ v t, x.map ρ = some v ∧ x.map ev = some t ∧ RTV S U' L' w' v t := by
  cases x with
  | none => exact .inl ⟨rfl, rfl⟩
  | some x => exact .inr ⟨_, _, rfl, rfl, hev x⟩

theorem call_sound (m : Mem k h w L F U) (hn : h nid = none) (hU : ¬ U nid) {ρ : Operand → Value} {ev : Operand → TV} (hev : ∀ x, RTV (SS k h L F w) U L w (ρ x) (ev x)) {b : Builtin} {args : Array Operand} {tys : Array TypeId} {ty : TypeId} {consts : Array Bool} {tv : TV} {l}
    (he : callT P h nid b tys.toList (args.toList.map ev) = some (tv, l)) : Snd k h w L F U nid ((builtin b tys ty consts (args.map ρ)).run P w) tv l := by
  unfold callT at he
  split at he
  · rename_i ts tx s x e1 e2
    obtain ⟨tl⟩ := tys; simp only at e1; subst e1
    obtain ⟨al⟩ := args
    match al, e2 with
    | [a1, a2], e2 =>
      simp only [List.map_cons, List.map_nil, List.cons.injEq, and_true] at e2
      obtain ⟨rfl, rfl⟩ := e2
      have := snd_append (ty := ty) m hn hU (hev a1) (hev a2) he
      simpa [builtin] using this
  · rename_i t x e1 e2
    obtain ⟨tl⟩ := tys; simp only at e1; subst e1
    obtain ⟨al⟩ := args
    match al, e2 with
    | [a1], e2 =>
      simp only [List.map_cons, List.map_nil, List.cons.injEq, and_true] at e2
      subst e2
      obtain ⟨n, h1, h2⟩ := Option.map_eq_some_iff.1 he
      obtain ⟨rfl, rfl⟩ := Prod.mk.inj h2
      have := snd_len (ty := ty) (nid := nid) m (hev a1) h1
      simpa [builtin] using this
  · rename_i kk a kk' b' e2
    obtain ⟨al⟩ := args
    rcases al with _ | ⟨a1, _ | ⟨a2, _ | ⟨a3, al⟩⟩⟩ <;> simp at e2
    obtain ⟨rfl, rfl⟩ := Prod.mk.inj (Option.some.inj he)
    have h1 := hev a1; have h2 := hev a2
    rw [e2.1] at h1; rw [e2.2] at h2
    have := snd_max (tys := tys) (ty := ty) (nid := nid) (P := P) m h1 h2
    simpa [builtin] using this
  · rename_i kk a kk' b' e2
    obtain ⟨al⟩ := args
    rcases al with _ | ⟨a1, _ | ⟨a2, _ | ⟨a3, al⟩⟩⟩ <;> simp at e2
    obtain ⟨rfl, rfl⟩ := Prod.mk.inj (Option.some.inj he)
    have h1 := hev a1; have h2 := hev a2
    rw [e2.1] at h1; rw [e2.2] at h2
    have := snd_min (tys := tys) (ty := ty) (nid := nid) (P := P) m h1 h2
    simpa [builtin] using this
  · cases he

set_option maxHeartbeats 1000000 in
theorem eff_sound (m : Mem k h w L F U) (hn : h nid = none) (hU : ¬ U nid) {ρ : Operand → Value} {ev : Operand → TV} (hev : ∀ x, RTV (SS k h L F w) U L w (ρ x) (ev x)) (o : Oper) {tv : TV} {l}
    (he : eff P h nid ev o.op = some (tv, l)) : Snd k h w L F U nid ((execOp ρ o).run P w) tv l := by
  obtain ⟨dst, op, ty, pos, after, guard⟩ := o
  have get : ∀ {x : Operand} {t : TV}, ev x = t → RTV (SS k h L F w) U L w (ρ x) t := fun {x t} e => e ▸ hev x
  cases op <;> simp only [eff] at he <;> try (cases he; done)
  case move x =>
    obtain ⟨rfl, rfl⟩ := Prod.mk.inj (Option.some.inj he)
    exact snd_same m (v := ρ x) rfl (hev x)
  case assign x =>
    obtain ⟨rfl, rfl⟩ := Prod.mk.inj (Option.some.inj he)
    exact snd_same m (v := ρ x) rfl (hev x)
  case pick c a b =>
    split at he
    · rename_i t e
      obtain ⟨rfl, rfl⟩ := Prod.mk.inj (Option.some.inj he)
      have hc := rep_prim (get e)
      cases t
      · exact snd_same m (v := ρ b) (by simp [execOp, hc, asBool]) (hev b)
      · exact snd_same m (v := ρ a) (by simp [execOp, hc, asBool]) (hev a)
    · cases he
  case alloc t =>
    obtain ⟨z, hz, e⟩ := Option.map_eq_some_iff.1 he
    obtain ⟨rfl, rfl⟩ := Prod.mk.inj e
    exact snd_alloc m hn hU hz
  case box t x =>
    split at he
    · rename_i b l e
      obtain ⟨rfl, rfl⟩ := Prod.mk.inj (Option.some.inj he)
      exact snd_box m hn hU (get e)
    · cases he
  case build t parts =>
    split at he
    · rename_i fs z hu hz
      split at he
      · rename_i hall
        obtain ⟨out, h1, h2⟩ := Option.map_eq_some_iff.1 he
        obtain ⟨rfl, rfl⟩ := Prod.mk.inj h2
        obtain ⟨p1, p2⟩ := parts_fit hev parts
        exact snd_build m hu hz (fun f hf => Option.isSome_iff_exists.1 (List.all_eq_true.1 hall f hf)) p1 p2 h1
      · cases he
    · cases he
  case buildSlice t n parts =>
    split at he
    · rename_i e hee
      split at he
      · rename_i z hz
        split at he
        · rename_i hc
          obtain ⟨out, h1, h2⟩ := Option.map_eq_some_iff.1 he
          obtain ⟨rfl, rfl⟩ := Prod.mk.inj h2
          obtain ⟨p1, p2⟩ := parts_fit hev parts
          exact snd_buildSlice m hn hU hee hz hc p1 p2 h1
        · cases he
      · cases he
    · cases he
  case load t a =>
    split at he
    · rename_i s r hs hr
      split at he
      · rename_i hrs
        split at he
        · rename_i id off e
          split at he
          · rename_i o' cs hid
            split at he
            · rename_i hc
              obtain ⟨rfl, rfl⟩ := Prod.mk.inj (Option.some.inj he)
              exact snd_load_ptr m (get e) hs hr hrs hid hc
            · cases he
          · cases he
        · rename_i l' e
          split at he
          · rename_i hc
            obtain ⟨rfl, rfl⟩ := Prod.mk.inj (Option.some.inj he)
            exact snd_load_rop m (get e) hs hr hrs hc
          · cases he
        · cases he
      · cases he
    · cases he
  case store t a x =>
    split at he
    · rename_i id off b l' e1 e2
      split at he
      · rename_i cs hid
        split at he
        · rename_i hc
          obtain ⟨rfl, rfl⟩ := Prod.mk.inj (Option.some.inj he)
          exact snd_store m (get e1) (get e2) hid hc
        · cases he
      · cases he
    · cases he
  case nilCheck x =>
    split at he
    · rename_i id off e
      obtain ⟨rfl, rfl⟩ := Prod.mk.inj (Option.some.inj he)
      have hx := get e
      have : ∃ a, ρ x = .pointer (some a) := by
        generalize ρ x = q at hx
        cases hx; exact ⟨_, rfl⟩
      obtain ⟨a, ea⟩ := this
      exact snd_same m (v := ρ x) (by simp [execOp, ea]) hx
    · rename_i l' e
      obtain ⟨rfl, rfl⟩ := Prod.mk.inj (Option.some.inj he)
      have hx := get e
      have : ∃ a, ρ x = .pointer (some a) := by
        generalize ρ x = q at hx
        cases hx; exact ⟨_, rfl⟩
      obtain ⟨a, ea⟩ := this
      exact snd_same m (v := ρ x) (by simp [execOp, ea]) hx
    · cases he
  case binOp op t x y yt =>
    split at he
    · rename_i a b e1 e2
      obtain ⟨r, h1, h2⟩ := Option.map_eq_some_iff.1 he
      obtain ⟨rfl, rfl⟩ := Prod.mk.inj h2
      exact snd_bin m (get e1) (get e2) h1
    · rename_i l1 l2 e1 e2
      split at he
      · obtain ⟨r, h1, h2⟩ := Option.map_eq_some_iff.1 he
        obtain ⟨rfl, rfl⟩ := Prod.mk.inj h2
        exact (snd_eqStruct m (get e1) (get e2) h1).1 rfl
      · obtain ⟨r, h1, h2⟩ := Option.map_eq_some_iff.1 he
        obtain ⟨rfl, rfl⟩ := Prod.mk.inj h2
        exact (snd_eqStruct m (get e1) (get e2) h1).2 rfl
      · cases he
    · cases he
  case unOp op t x =>
    split at he
    · rename_i a e
      obtain ⟨r, h1, h2⟩ := Option.map_eq_some_iff.1 he
      obtain ⟨rfl, rfl⟩ := Prod.mk.inj h2
      exact snd_un m (get e) h1
    · cases he
  case convert s d x =>
    split at he
    · rename_i hs hd e
      obtain ⟨rfl, rfl⟩ := Prod.mk.inj (Option.some.inj he)
      exact snd_conv_int m hs hd (get e)
    · rename_i b hs hd e
      obtain ⟨rfl, rfl⟩ := Prod.mk.inj (Option.some.inj he)
      exact snd_conv_str m hs hd (get e)
    · rename_i e' b hs hd e
      split at he
      · rename_i hu8
        obtain ⟨rfl, rfl⟩ := Prod.mk.inj (Option.some.inj he)
        exact snd_conv_bytes m hs hd hu8 (get e)
      · cases he
    · rename_i e' hs hd
      split at he
      · rename_i n N c hu8 hsrc ex
        have key : ∀ (bs : List UInt8), (∀ v, c ≠ .prim v) → strOf N = some bs → Snd k h w L F U nid ((do pure (Next.value (← convert s d (ρ x))) : Sem Next).run P w) (.v false [.prim (.string ⟨bs.toArray⟩)]) [] := fun bs hp hN =>
          snd_conv_text m hs hd hu8 (get ex) (by rw [← ex]; exact hsrc) (fun v e => hp v (by simpa using e)) hN
        split at he
        · cases he
        · rename_i hp
          obtain ⟨bs, h1, h2⟩ := Option.map_eq_some_iff.1 he
          obtain ⟨rfl, rfl⟩ := Prod.mk.inj h2
          exact key bs (fun v e => hp v e) h1
      · cases he
    · cases he
  case makeSlice t l' c =>
    split at he
    · rename_i k1 n k2 n' e e1 e2 hee
      split at he
      · rename_i i z hi hz
        split at he
        · rename_i hc
          obtain ⟨rfl, rfl⟩ := Prod.mk.inj (Option.some.inj he)
          obtain ⟨rfl, h0, h1, h2, h3⟩ := hc
          have q1 := rep_prim (get e1)
          have q2 := rep_prim (get e2)
          have := snd_makeSlice (kl := k1) (kc := k2) m hn hU hee hi hz h0 h1 h2 h3
          rw [← q1, ← q2] at this
          exact this
        · cases he
      · cases he
    · cases he
  case slice t x lo hi mx =>
    cases mx with
    | some _ => simp at he
    | none =>
      simp only at he
      split at he
      · rename_i b e
        split at he
        · rename_i a1 a2 hu h1 h2
          split at he
          · rename_i hc
            obtain ⟨rfl, rfl⟩ := Prod.mk.inj (Option.some.inj he)
            exact snd_slice_str m (opt_fit hev lo) (opt_fit hev hi) hu (get e) h1 h2 hc.1 hc.2
          · cases he
        · cases he
      · rename_i c e
        split at he
        · rename_i e' hee
          split at he
          · rename_i s n hs hnn
            split at he
            · rename_i a1 a2 h1 h2
              obtain ⟨c', h3, h4⟩ := Option.map_eq_some_iff.1 he
              obtain ⟨rfl, rfl⟩ := Prod.mk.inj h4
              exact snd_slice m (opt_fit hev lo) (opt_fit hev hi) hee hs (get e) hnn h1 h2 h3
            · cases he
          · cases he
        · cases he
      · cases he
  case fieldAddr s x f =>
    split at he
    · rename_i fd hf
      split at he
      · rename_i q hs
        split at he
        · rename_i id off e
          obtain ⟨rfl, rfl⟩ := Prod.mk.inj (Option.some.inj he)
          exact snd_field_ptr m (get e) hf hs
        · rename_i l' e
          obtain ⟨rfl, rfl⟩ := Prod.mk.inj (Option.some.inj he)
          exact snd_field_rop m (get e) hf hs
        · cases he
      · cases he
    · cases he
  case field s x f =>
    split at he
    · rename_i fd hf
      split at he
      · rename_i n r l' hs hr e
        split at he
        · rename_i hc
          obtain ⟨rfl, rfl⟩ := Prod.mk.inj (Option.some.inj he)
          exact snd_field m hf hs hr (get e) hc
        · cases he
      · cases he
    · cases he
  case indexAddr t x i =>
    split at he
    · rename_i e' hee
      split at he
      · rename_i s kk j hs ei
        have qi := rep_prim (get ei)
        split at he
        · rename_i id off n s' e
          split at he
          · rename_i hc
            obtain ⟨rfl, rfl⟩ := Prod.mk.inj (Option.some.inj he)
            obtain ⟨h0, h1, rfl⟩ := hc
            have := snd_index_ref (kk := kk) m (get e) hee hs h0 h1 (nid := nid)
            rw [← qi] at this
            exact this
          · cases he
        · rename_i n s' l' e
          split at he
          · rename_i hc
            obtain ⟨rfl, rfl⟩ := Prod.mk.inj (Option.some.inj he)
            obtain ⟨h0, h1, rfl⟩ := hc
            have := snd_index_ro (kk := kk) m (get e) hee hs h0 h1 (nid := nid)
            rw [← qi] at this
            exact this
          · cases he
        · cases he
      · cases he
    · cases he
  case index t x i =>
    split at he
    · rename_i b kk j hu ex ei
      split at he
      · rename_i c hc
        split at he
        · rename_i h0
          obtain ⟨rfl, rfl⟩ := Prod.mk.inj (Option.some.inj he)
          have qi := rep_prim (get ei)
          have := snd_index_str (kk := kk) m hu (get ex) hc h0 (nid := nid)
          rw [← qi] at this
          exact this
        · cases he
      · cases he
    · cases he
  case extract x i =>
    split at he
    · rename_i l' e
      split at he
      · rename_i b cs hi
        obtain ⟨rfl, rfl⟩ := Prod.mk.inj (Option.some.inj he)
        exact snd_extract m (get e) hi
      · cases he
    · cases he
  case call c =>
    obtain ⟨callee, args, tys⟩ := c
    cases callee with
    | value _ => simp at he
    | invoke _ _ => simp at he
    | builtin b =>
      simp only at he
      simp [execOp, resolve, invoke]
      exact call_sound (ty := ty) m hn hU hev he
end
end

section
open Go Go.RowKit

inductive Out where
  | norm
  | exit (n : Nat)
  | ret
  deriving DecidableEq, Inhabited

/-- What a call is handed: a value that it only reads; or a node of its own (`p`: by a pointer to it; else a slice of `n` elements of `s` cells); `ex`: behind the arguments, a node that a struct among them leads to. -/
inductive Arg where
  | val (b : Bool) (l : List Cell)
  | own (p : Bool) (n s : Nat) (l : List Cell)
  | ex (l : List Cell)
  deriving Inhabited

def setT (t : List TV) (d : Option Nat) (v : TV) : List TV :=
  match d with
  | some d => t.set d v
  | none => t

def setH (h : List (Option Node)) (i : Nat) (n : Option Node) : List (Option Node) :=
  if i < h.length then h.set i n else h ++ List.replicate (i - h.length) none ++ [n]

abbrev Upds := List (Nat × Option Node)

def St.app (σ : St) (d : Option Nat) (r : TV) (l : Upds) : St := ⟨setT σ.t d r, l.foldl (fun h p => setH h p.1 p.2) σ.h⟩

/-- Is an operation behind a guard to be done? -/
def guardT (ops : Array Oper) (t : List TV) (o : Oper) : Option Bool :=
  match o.guard with
  | none => some true
  | some (j, want) => match (ops[j]?).bind (·.dst) with
    | some d => match t.getD d .undef with
      | .v false [.prim (.bool b)] => some (b == want)
      | .tup [] => some false
      | _ => none
    | none => none

/-- What a callee sees of the cells of a value that it only reads; which nodes it so sees. -/
def snapC (h : Nat → Option Node) : Cell → Option (Cell × List Nat)
  | .prim v => some (.prim v, [])
  | .nil => some (.nil, [])
  | .sl false n s l => some (.sl false n s l, [])
  | .sl true 0 s [] => some (.sl false 0 s [], [])
  | .ref id off n s => match h id with
    | some (o, cs) => if off + n * s ≤ cs.length ∧ ((cs.drop off).take (n * s)).all Cell.shal = true then
        some (.sl false n s (roifyL ((cs.drop off).take (n * s))), if o then [id] else []) else none
    | none => none
  | _ => none

/-- `zs`: the element sizes of the nil slices within, as they come. -/
def snapL (h : Nat → Option Node) : List Nat → List Cell → Option (List Cell × List Nat)
  | _, [] => some ([], [])
  | s :: zs, .nil :: cs => match snapL h zs cs with
    | some (cs', j) => some (.sl false 0 s [] :: cs', j)
    | none => none
  | zs, c :: cs => match snapC h c, snapL h zs cs with
    | some (c', i), some (cs', j) => some (c' :: cs', i ++ j)
    | _, _ => none

/-- How an argument is handed: to be read (with the element sizes of nil slices within), or to be written (nil: as a new slice without elements, of this element size). -/
inductive Mode where
  | val (zs : List Nat)
  | own (s : Nat)
  | str
  deriving Inhabited

/-- One argument: as it is handed; the nodes that are seen; the node that is handed on. -/
def argT (h : Nat → Option Node) : Mode → TV → Option (Arg × List Nat × Option Nat)
  | .val zs, .v b l => match snapL h zs l with
    | some (l', i) => some (.val b l', i, none)
    | none => none
  | .own s, .v false [.nil] => some (.own false 0 s [], [], none)
  | .own _, .v false [.ptr id off] => match h id with
    | some (true, cs) => if off = 0 ∧ cs.all Cell.shal = true then some (.own true 0 0 cs, [], some id) else none
    | _ => none
  | .own _, .v false [.ref id off n s] => match h id with
    | some (true, cs) => if off = 0 ∧ cs.length = n * s ∧ cs.all Cell.shal = true then some (.own false n s cs, [], some id) else none
    | _ => none
  | _, _ => none

/-- A struct that is handed on with the slices within: the callee has their nodes from `k` on. -/
def giveL (h : Nat → Option Node) : Nat → List Cell → Option (List Cell × List (Nat × List Cell))
  | _, [] => some ([], [])
  | k, .prim v :: l => match giveL h k l with
    | some (l', e) => some (.prim v :: l', e)
    | none => none
  | k, .nil :: l => match giveL h k l with
    | some (l', e) => some (.nil :: l', e)
    | none => none
  | k, .sl false n s x :: l => match giveL h k l with
    | some (l', e) => some (.sl false n s x :: l', e)
    | none => none
  | k, .ref id off n s :: l => match h id with
    | some (true, cs) => if off = 0 ∧ cs.length = n * s ∧ cs.all Cell.shal = true then
        match giveL h (k + 1) l with
        | some (l', e) => some (.ref k 0 n s :: l', (id, cs) :: e)
        | none => none
      else none
    | _ => none
  | _, _ => none

def argsG (h : Nat → Option Node) : Nat → List Mode → List TV → Option (List Arg × List Nat × List (Option Nat) × List (Nat × List Cell))
  | _, [], [] => some ([], [], [], [])
  | k, .str :: ms, .v b l :: xs => match giveL h k l with
    | some (l', e) => match argsG h (k + e.length) ms xs with
      | some (as, j, os, es) => some (.val b l' :: as, j, none :: os, e ++ es)
      | none => none
    | none => none
  | k, m :: ms, x :: xs => match argT h m x, argsG h k ms xs with
    | some (a, i, o), some (as, j, os, es) => some (a :: as, i ++ j, o :: os, es)
    | _, _ => none
  | k, [], x :: xs => match argT h (.val []) x, argsG h k [] xs with
    | some (a, i, o), some (as, j, os, es) => some (a :: as, i ++ j, o :: os, es)
    | _, _ => none
  | _, _, _ => none

def argsT (h : Nat → Option Node) (ms : List Mode) (xs : List TV) : Option (List Arg × List Nat × List (Option Nat)) :=
  match argsG h xs.length ms xs with
  | some (as, sn, ow, es) => some (as ++ es.map (fun e => .ex e.2), sn, ow ++ es.map (fun e => some e.1))
  | none => none

def noEx (as : List Arg) : Bool := as.all fun a => match a with | .ex _ => false | _ => true

/-- The cells of results, as slots hold them: own slices become nodes from `nid` on. -/
def placeL (nid : Nat) : List Cell → List Cell
  | [] => []
  | .sl true n s _ :: cs => .ref nid 0 n s :: placeL (nid + 1) cs
  | .op _ :: cs => .ptr nid 0 :: placeL (nid + 1) cs
  | c :: cs => c :: placeL nid cs

def ownsL : List Cell → List (List Cell)
  | [] => []
  | .sl true _ _ l :: cs => l :: ownsL cs
  | .op l :: cs => l :: ownsL cs
  | _ :: cs => ownsL cs

def placeV (nid : Nat) : List (Bool × List Cell) → List (Bool × List Cell)
  | [] => []
  | (b, l) :: vs => (b, placeL nid l) :: placeV (nid + (ownsL l).length) vs

def ownsV : List (Bool × List Cell) → List (List Cell)
  | [] => []
  | (_, l) :: vs => ownsL l ++ ownsV vs

def newU (nid : Nat) : List (List Cell) → Upds
  | [] => []
  | l :: ls => (nid, some (true, l)) :: newU (nid + 1) ls

def backU : List (Option Nat) → List (Option (List Cell)) → Upds
  | [], _ => []
  | some id :: os, o :: outs => (id, o.map fun c => (true, c)) :: backU os outs
  | some id :: os, [] => (id, none) :: backU os []
  | none :: os, _ :: outs => backU os outs
  | none :: os, [] => backU os []

def resTV : List (Bool × List Cell) → TV
  | [(b, l)] => .v b l
  | vs => .tup vs

mutual
/-- Nothing of it is seen by somebody else. -/
def Cell.pure : Cell → Bool
  | .prim _ | .nil => true
  | .sl o _ _ l => if o then pureL l else l.isEmpty
  | .op l => pureL l
  | _ => false
def pureL : List Cell → Bool
  | [] => true
  | c :: l => c.pure && pureL l
end

def pureV (vals : List (Bool × List Cell)) (outs : List (Option (List Cell))) : Bool :=
  vals.all (fun p => pureL p.2) && outs.all fun o => match o with | some l => pureL l | none => true

def enterOK (P : Program) (f : FuncId) : Bool :=
  match P.funcs[f]? with
  | some fn => fn.name != "runtime.NumGoroutine" && fn.body.isSome
  | none => false

/-! ### Beginning and end of a call -/
def Arg.tv (j : Nat) : Arg → TV
  | .val b l => .v b l
  | .own true _ _ _ => .v false [.ptr j 0]
  | .own false n s _ => .v false [.ref j 0 n s]
  | .ex _ => .undef

def Arg.node : Arg → Option Node
  | .val _ _ => none
  | .own _ _ _ l => some (true, l)
  | .ex l => some (true, l)

def argTVs : Nat → List Arg → List TV
  | _, [] => []
  | j, a :: as => a.tv j :: argTVs (j + 1) as

def initS (as : List Arg) (ntmps : Nat) : St := ⟨argTVs 0 as ++ List.replicate (ntmps - as.length) .undef, as.map Arg.node⟩

def resVarT (P : Program) (σ : St) : ResultVar → Option (Bool × List Cell)
  | .tmp t => match σ.tv t with
    | .v b l => some (b, l)
    | _ => none
  | .cell a ty => match σ.tv a, szT P ty, rowT P ty with
    | .v false [.ptr id off], some s, some r => match σ.nd id with
      | some (_, cs) => if (r = true ∨ s = 1) ∧ off + s ≤ cs.length ∧ ((cs.drop off).take s).all (fun c => !c.own?) = true then some (r, (cs.drop off).take s) else none
      | none => none
    | _, _, _ => none

def resVarsT (P : Program) (σ : St) : List ResultVar → Option (List (Bool × List Cell))
  | [] => some []
  | r :: rs => match resVarT P σ r, resVarsT P σ rs with
    | some v, some vs => some (v :: vs)
    | _, _ => none

def exC (h : Nat → Option Node) : Cell → Option (Cell × List Nat)
  | .prim v => some (.prim v, [])
  | .nil => some (.nil, [])
  | .sl false n s l => some (.sl false n s l, [])
  | .sl true 0 s [] => some (.sl true 0 s [], [])
  | .ref id off n s => match h id with
    | some (true, cs) => if off = 0 ∧ cs.length = n * s ∧ s ≠ 0 ∧ cs.all Cell.shal = true then some (.sl true n s cs, [id]) else none
    | some (false, cs) => if off + n * s ≤ cs.length ∧ ((cs.drop off).take (n * s)).all Cell.shal = true then some (.sl false n s ((cs.drop off).take (n * s)), []) else none
    | none => none
  | .ptr id off => match h id with
    | some (true, cs) => if off = 0 ∧ cs.isEmpty = false ∧ cs.all Cell.shal = true then some (.op cs, [id]) else none
    | _ => none
  | _ => none

def exL (h : Nat → Option Node) : List Nat → List Cell → Option (List Cell × List Nat)
  | _, [] => some ([], [])
  | s :: zs, .nil :: cs => match exL h zs cs with
    | some (cs', j) => some (.sl true 0 s [] :: cs', j)
    | none => none
  | zs, c :: cs => match exC h c, exL h zs cs with
    | some (c', i), some (cs', j) => some (c' :: cs', i ++ j)
    | _, _ => none

/-- `zs`: the element sizes of the nil slices within each result. -/
def exV (h : Nat → Option Node) : List (List Nat) → List (Bool × List Cell) → Option (List (Bool × List Cell) × List Nat)
  | _, [] => some ([], [])
  | zs, (b, l) :: vs => match exL h (zs.headD []) l, exV h zs.tail vs with
    | some (l', i), some (vs', j) => some ((b, l') :: vs', i ++ j)
    | _, _ => none

def outT (h : Nat → Option Node) (used : List Nat) (j : Nat) : Arg → Option (List Cell)
  | .val _ _ => none
  | _ => if used.contains j then none else
    match h j with
    | some (true, cs) => if cs.all Cell.shal = true then some cs else none
    | _ => none

def outsT (h : Nat → Option Node) (used : List Nat) : Nat → List Arg → List (Option (List Cell))
  | _, [] => []
  | j, a :: as => outT h used j a :: outsT h used (j + 1) as

def finT (P : Program) (fn : Func) (zs : List (List Nat)) (σ : St) (as : List Arg) : Option (List (Bool × List Cell) × List (Option (List Cell))) :=
  match resVarsT P σ fn.results.toList with
  | some rv => match exV σ.nd zs rv with
    | some (vals, used) => if used.Nodup then some (vals, outsT σ.nd used 0 as) else none
    | none => none
  | none => none

/-! ### How a T state stands for the machine's -/
structure RSb (k : Base) (n : Nat) (L0 : Nat → Nat × Nat) (bd : Nat → Prop) (σ : St) (a : Act) (w : World) : Prop where
  ex : ∃ L F U, Mem k σ.nd w L F U ∧ (∀ i, RTV (SS k σ.nd L F w) U L w (a.tmps.getD i undef) (σ.tv i)) ∧ (∀ i, U i → bd i) ∧ (∀ i, i < n → U i ∧ L i = L0 i)
  len : σ.t.length ≤ a.tmps.size
  defers : a.defers = []

def RS (k : Base) (n : Nat) (L0 : Nat → Nat × Nat) (σ : St) (a : Act) (w : World) : Prop := RSb k n L0 (· < σ.h.length) σ a w

/-- A step that the machine does not notice. -/
def Gh (n : Nat) (σ σ' : St) : Prop := ∀ k L0 a w, RS k n L0 σ a w → RS k n L0 σ' a w

/-! ### Which order -/
def tmpsR (ops : Array Oper) (o : Oper) : List Nat :=
  (o.op.operands.toList.filterMap fun | .tmp t => some t | _ => none) ++ (match o.guard with | some (g, _) => ((ops[g]?).bind (·.dst)).toList | none => [])

def Cell.id? : Cell → List Nat
  | .ref id _ _ _ => [id]
  | .ptr id _ => [id]
  | _ => []

def TV.ids : TV → List Nat
  | .v _ l => l.flatMap Cell.id?
  | .tup l => l.flatMap fun p => p.2.flatMap Cell.id?
  | .undef => []

/-- The operands whose nodes an operation looks into. -/
def opN : Op → List Operand
  | .move _ => []
  | op => op.operands.toList

theorem opN_mem {op : Op} {x : Operand} (h : x ∈ opN op) : x ∈ op.operands := by
  unfold opN at h
  split at h
  · cases h
  · simpa using h

def nodesR (σ : St) (o : Oper) : List Nat := (opN o.op).flatMap fun x => (evT σ.t x).ids

/-- The states of a region, operation by operation. -/
def statesT (ops : Array Oper) : St → List (TV × Upds) → Nat → List St
  | _, [], _ => []
  | σ, (r, l) :: us, i => σ :: statesT ops (σ.app ((ops[i]?).bind (·.dst)) r l) us (i + 1)

structure FP where
  tr : List Nat
  tw : List Nat
  nr : List Nat
  nw : List Nat

def fpT (ops : Array Oper) (σ : St) (i : Nat) (u : TV × Upds) : FP :=
  match ops[i]? with
  | some o => ⟨tmpsR ops o, o.dst.toList, nodesR σ o, u.2.map (·.1)⟩
  | none => ⟨[], [], [], []⟩

def FP.apart (a b : FP) : Bool :=
  a.tw.all (fun x => !b.tr.contains x && !b.tw.contains x) && a.tr.all (fun x => !b.tw.contains x) &&
  a.nw.all (fun x => !b.nr.contains x && !b.nw.contains x) && a.nr.all (fun x => !b.nw.contains x)

/-- `j` surely comes behind `i` (looked for `n` steps deep). -/
def befT (ops : Array Oper) : Nat → Nat → Nat → Bool
  | 0, _, _ => false
  | n + 1, i, j => match ops[j]? with
    | some o => o.after.toList.any (fun e => Region.binds .any e && e.on == i) || o.after.toList.any (fun e => Region.binds .any e && befT ops n i e.on)
    | none => false

def fpsT (ops : Array Oper) (σ : St) (us : List (TV × Upds)) : List FP :=
  (List.range us.length).map fun i => fpT ops ((statesT ops σ us 0).getD i ⟨[], []⟩) i (us.getD i (.undef, []))

def orderOK (ops : Array Oper) (depth : Nat) (fps : List FP) : Bool :=
  (List.range fps.length).all fun j => (List.range j).all fun i => (fps.getD i ⟨[], [], [], []⟩).apart (fps.getD j ⟨[], [], [], []⟩) || befT ops depth i j

/-- Fresh nodes are an operation's own, or of one that surely came before. -/
def idsOK (ops : Array Oper) (depth B : Nat) (us : List (TV × Upds)) : Bool :=
  us.zipIdx.all fun p => p.1.2.all fun q => decide (q.1 < B) || (q.1 - B) / 16 == p.2 || befT ops depth ((q.1 - B) / 16) p.2

def afterOK (ops : Array Oper) : Bool :=
  (List.range ops.size).all fun i => match ops[i]? with
    | some o => o.after.toList.all fun e => !Region.binds .any e || decide (e.on < i)
    | none => true

/-! ### What runs to what -/
inductive J where
  | op (nid : Nat) (ops : Array Oper) (i : Nat) (σ : St) (r : TV) (l : Upds)
  | ops (base : Option Nat) (ops : Array Oper) (is : List Nat) (σ σ' : St) (us : List (TV × Upds))
  | reg (n : Nat) (ops : Array Oper) (is : List Nat) (σ σ' : St)
  | code (n : Nat) (c : Code) (σ : St) (out : Out) (σ' : St)
  | loop (n : Nat) (c : Code) (σ : St) (out : Out) (σ' : St)
  | call (f : FuncId) (as : List Arg) (vals : List (Bool × List Cell)) (outs : List (Option (List Cell)))

def nidOf (base : Option Nat) (σ : St) (i : Nat) : Nat :=
  match base with
  | some b => b + 16 * i
  | none => σ.h.length

def outBlock (id : Nat) : Out → Out
  | .exit n => if n = id then .norm else .exit n
  | o => o

inductive D (P : Program) (X : FuncId → List Arg → List (Bool × List Cell) → List (Option (List Cell)) → Prop) : J → Prop
  | opSkip {nid ops i σ o} : ops[i]? = some o → guardT ops σ.t o = some false → D P X (.op nid ops i σ (.tup []) [])
  | opEff {nid ops i σ o r l} : ops[i]? = some o → guardT ops σ.t o = some true → eff P σ.nd nid (evT σ.t) o.op = some (r, l) → D P X (.op nid ops i σ r l)
  | opCall {nid ops i σ o f xs tys ms as sn ow vals outs} : ops[i]? = some o → guardT ops σ.t o = some true → o.op = .call ⟨.value (.func f), xs, tys⟩ → enterOK P f = true →
      argsT σ.nd ms (xs.toList.map (evT σ.t)) = some (as, sn, ow) → (ow.filterMap id).Nodup → (∀ x ∈ sn, some x ∉ ow) →
      D P X (.call f as vals outs) → (sn = [] ∨ pureV vals outs = true) → (ownsV vals).length ≤ 16 →
      D P X (.op nid ops i σ (resTV (placeV nid vals)) (backU ow outs ++ newU nid (ownsV vals)))
  | opsNil {base ops σ} : D P X (.ops base ops [] σ σ [])
  | opsCons {base ops i is σ r l σ' us} : D P X (.op (nidOf base σ i) ops i σ r l) → D P X (.ops base ops is (σ.app ((ops[i]?).bind (·.dst)) r l) σ' us) → D P X (.ops base ops (i :: is) σ σ' ((r, l) :: us))
  | skip {n σ} : D P X (.code n .skip σ .norm σ)
  | ret {n σ} : D P X (.code n .ret σ .ret σ)
  | exit {n m σ} : D P X (.code n (.exit m) σ (.exit m) σ)
  | regNil {n ops σ} : D P X (.reg n ops [] σ σ)
  | regCons {n ops i is σ r l σ'} : D P X (.op σ.h.length ops i σ r l) → D P X (.reg n ops is (σ.app ((ops[i]?).bind (·.dst)) r l) σ') → D P X (.reg n ops (i :: is) σ σ')
  | regGh {n ops is σ σ1 σ'} : Gh n σ σ1 → D P X (.reg n ops is σ1 σ') → D P X (.reg n ops is σ σ')
  | region {n id ops σ σ'} : D P X (.reg n ops (List.range ops.size) σ σ') → D P X (.code n (.region id ops false) σ .norm σ')
  | draws {n id ops σ σ' us} (depth : Nat) : D P X (.ops (some σ.h.length) ops (List.range ops.size) σ σ' us) → orderOK ops depth (fpsT ops σ us) = true → idsOK ops depth σ.h.length us = true → afterOK ops = true → D P X (.code n (.region id ops true) σ .norm σ')
  | seq {n a b σ σ' out σ''} : D P X (.code n a σ .norm σ') → D P X (.code n b σ' out σ'') → D P X (.code n (.seq a b) σ out σ'')
  | seqOut {n a b σ out σ'} : D P X (.code n a σ out σ') → out ≠ .norm → D P X (.code n (.seq a b) σ out σ')
  | cond {n c a b σ t out σ'} : evT σ.t c = .v false [.prim (.bool t)] → D P X (.code n (if t then a else b) σ out σ') → D P X (.code n (.cond c a b) σ out σ')
  | block {n id c σ out σ'} : D P X (.code n c σ out σ') → D P X (.code n (.block id c) σ (outBlock id out) σ')
  | loop {n c σ out σ'} : D P X (.loop n c σ out σ') → D P X (.code n (.loop c) σ out σ')
  | loopGo {n c σ σ' out σ''} : D P X (.code n c σ .norm σ') → D P X (.loop n c σ' out σ'') → D P X (.loop n c σ out σ'')
  | loopEnd {n c σ out σ'} : D P X (.code n c σ out σ') → out ≠ .norm → D P X (.loop n c σ out σ')
  | ghost {n c σ σ' out σ''} : Gh n σ σ' → D P X (.code n c σ' out σ'') → D P X (.code n c σ out σ'')
  | ghostL {n c σ σ' out σ''} : Gh n σ σ' → D P X (.loop n c σ' out σ'') → D P X (.loop n c σ out σ'')
  | ghostE {n c σ out σ' σ''} : D P X (.code n c σ out σ') → Gh n σ' σ'' → D P X (.code n c σ out σ'')
  | call {f fn c as out σ vals outs} (zs : List (List Nat)) : P.funcs[f]? = some fn → fn.body = some c → (noEx as || Nat.ble as.length fn.ntmps) = true → D P X (.code as.length c (initS as fn.ntmps) out σ) → (out = .norm ∨ out = .ret) → finT P fn zs σ as = some (vals, outs) → D P X (.call f as vals outs)
  | ext {f as vals outs} : X f as vals outs → D P X (.call f as vals outs)
end

section
open Go Go.RowKit

def ndOf (h : List (Option Node)) (i : Nat) : Option Node := (h[i]?).join

theorem nd_eq (σ : St) : σ.nd = ndOf σ.h := rfl

theorem ndOf_setH (h : List (Option Node)) (i : Nat) (n : Option Node) : ndOf (setH h i n) = upd (ndOf h) i n := by
  funext j
  unfold ndOf setH upd
  by_cases hi : i < h.length
  · rw [if_pos hi, List.getElem?_set]
    by_cases e : i = j
    · subst e; simp [hi]
    · rw [if_neg e, if_neg (fun h => e h.symm)]
  · rw [if_neg hi]
    by_cases e : j = i
    · subst e
      rw [if_pos rfl, List.getElem?_append_right (by simp; omega)]
      simp [show j - (h.length + (j - h.length)) = 0 by omega]
    · rw [if_neg e]
      by_cases h1 : j < h.length
      · rw [List.append_assoc, List.getElem?_append_left h1]
      · show _ = (h[j]?).join
        rw [List.getElem?_eq_none (l := h) (i := j) (by omega)]
        by_cases h2 : j < i
        · rw [List.getElem?_append_left (by simp; omega), List.getElem?_append_right (by omega), List.getElem?_replicate, if_pos (by omega)]; rfl
        · rw [List.getElem?_eq_none (by simp; omega)]

theorem ndOf_foldl : ∀ (l : Upds) (h : List (Option Node)), ndOf (l.foldl (fun h p => setH h p.1 p.2) h) = ups (ndOf h) l
  | [], _ => rfl
  | p :: l, h => by rw [List.foldl_cons, ndOf_foldl l, ndOf_setH]; rfl

theorem nd_app (σ : St) (d : Option Nat) (r : TV) (l : Upds) : (σ.app d r l).nd = ups σ.nd l := ndOf_foldl l σ.h

theorem setH_length (h : List (Option Node)) (i : Nat) (n : Option Node) : (setH h i n).length = max h.length (i + 1) := by
  unfold setH
  split
  · simp; omega
  · simp; omega

theorem foldl_length : ∀ (l : Upds) (h : List (Option Node)), h.length ≤ (l.foldl (fun h p => setH h p.1 p.2) h).length ∧ ∀ p ∈ l, p.1 < (l.foldl (fun h p => setH h p.1 p.2) h).length
  | [], h => ⟨Nat.le_refl _, by simp⟩
  | p :: l, h => by
    obtain ⟨h1, h2⟩ := foldl_length l (setH h p.1 p.2)
    have h3 := setH_length h p.1 p.2
    refine ⟨by rw [List.foldl_cons]; omega, fun q hq => ?_⟩
    rw [List.foldl_cons]
    rcases List.mem_cons.1 hq with rfl | hq
    · omega
    · exact h2 q hq

theorem nd_lt {σ : St} {i : Nat} {nd : Node} (h : σ.nd i = some nd) : i < σ.h.length := by
  rcases Nat.lt_or_ge i σ.h.length with h1 | h1
  · exact h1
  · rw [nd_eq] at h; unfold ndOf at h; rw [List.getElem?_eq_none h1] at h; cases h

theorem nd_none {σ : St} {i : Nat} (h : σ.h.length ≤ i) : σ.nd i = none := by
  rw [nd_eq]; unfold ndOf; rw [List.getElem?_eq_none h]; rfl

theorem tv_app (σ : St) (d : Option Nat) (r : TV) (l : Upds) (i : Nat) : (σ.app d r l).tv i = σ.tv i ∨ (d = some i ∧ (σ.app d r l).tv i = r) := by
  unfold St.app St.tv setT
  cases d with
  | none => exact .inl rfl
  | some d =>
    by_cases e : d = i
    · subst e
      by_cases hl : d < σ.t.length
      · exact .inr ⟨rfl, by simp [List.getD, hl]⟩
      · exact .inl (by show (σ.t.set d r).getD d _ = _; rw [List.set_eq_of_length_le (by omega)])
    · refine .inl ?_
      simp only [List.getD]
      rw [List.getElem?_set_ne e]

theorem tv_app_len (σ : St) (d : Option Nat) (r : TV) (l : Upds) : (σ.app d r l).t.length = σ.t.length := by
  unfold St.app setT
  cases d <;> simp

/-- A value put into a slot, beside what T puts there. -/
theorem put_rtv {S U : Nat → Prop} {L : Nat → Nat × Nat} {w : World} {σ : St} {a : Act} {d : Option Nat} {v : Value} {r : TV} {l : Upds} (hl : σ.t.length ≤ a.tmps.size)
    (ht : ∀ i, RTV S U L w (a.tmps.getD i undef) (σ.tv i)) (hv : RTV S U L w v r) :
    (∀ i, RTV S U L w ((a.put d v).tmps.getD i undef) ((σ.app d r l).tv i)) ∧ (σ.app d r l).t.length ≤ (a.put d v).tmps.size ∧ (a.put d v).defers = a.defers := by
  refine ⟨fun i => ?_, ?_, ?_⟩
  · cases d with
    | none => exact ht i
    | some d =>
      by_cases e : d = i
      · subst e
        by_cases hd : d < a.tmps.size
        · have e1 : (a.put (some d) v).tmps.getD d undef = v := by simp [Act.put, hd]
          rw [e1]
          rcases tv_app σ (some d) r l d with h1 | ⟨_, h1⟩
          · rw [h1]
            have : (σ.app (some d) r l).tv d = r ∨ σ.tv d = .undef := by
              by_cases hs : d < σ.t.length
              · left; simp [St.app, St.tv, setT, List.getD, hs]
              · right; simp [St.tv, List.getD, List.getElem?_eq_none (show σ.t.length ≤ d by omega)]
            rcases this with h2 | h2
            · rw [← h1, h2]; exact hv
            · rw [h2]; trivial
          · rw [h1]; exact hv
        · have : (σ.app (some d) r l).tv d = .undef := by
            unfold St.app St.tv setT
            simp only [List.getD]
            rw [List.getElem?_eq_none (by simp; omega)]; rfl
          rw [this]; trivial
      · have e1 : (a.put (some d) v).tmps.getD i undef = a.tmps.getD i undef := by
          simp only [Act.put, Array.getD_eq_getD_getElem?]
          rw [Array.getElem?_setIfInBounds_ne e]
        rw [e1]
        rcases tv_app σ (some d) r l i with h1 | ⟨h0, _⟩
        · rw [h1]; exact ht i
        · exact absurd (Option.some.inj h0) e
  · rw [tv_app_len]
    cases d <;> simp [Act.put, hl]
  · cases d <;> rfl

theorem evT_rtv {S U : Nat → Prop} {L : Nat → Nat × Nat} {w : World} {t : List TV} {a : Act} (ht : ∀ i, RTV S U L w (a.tmps.getD i undef) (t.getD i .undef)) (x : Operand) : RTV S U L w (a.eval x) (evT t x) := by
  cases x with
  | tmp i => exact ht i
  | const v => exact evT_const
  | global g => trivial
  | func f => trivial

theorem guard_wanted {S U : Nat → Prop} {L : Nat → Nat × Nat} {w : World} {ops : Array Oper} {t : List TV} {a : Act} {o : Oper} {b : Bool} (ht : ∀ i, RTV S U L w (a.tmps.getD i undef) (t.getD i .undef)) (hg : guardT ops t o = some b) :
    Region.wanted o (yielded ops a.tmps) = b := by
  unfold guardT at hg
  unfold Region.wanted
  split at hg
  · rename_i e; rw [e]; exact Option.some.inj hg
  · rename_i j want e
    rw [e]
    split at hg
    · rename_i d hd
      split at hg
      · rename_i c hc
        obtain rfl := Option.some.inj hg
        have h1 := ht d
        rw [hc] at h1
        have h2 := rep_prim h1
        have h3 : a.tmps[d]? = some (.bool c) := by
          rw [Array.getD_eq_getD_getElem?] at h2
          cases h4 : a.tmps[d]? with
          | none => rw [h4] at h2; simp [undef] at h2
          | some v => rw [h4] at h2; simp at h2; rw [h2]
        have : yielded ops a.tmps j = some c := by unfold yielded; rw [hd]; simp [h3]
        simp only [this]
        cases c <;> cases want <;> rfl
      · rename_i hc
        obtain rfl := Option.some.inj hg
        have h1 := ht d
        rw [hc] at h1
        obtain ⟨xs, h2, h3, _⟩ := h1
        obtain rfl : xs = #[] := by simpa using h3
        have : yielded ops a.tmps j = none := by
          unfold yielded
          rw [hd]
          rw [Array.getD_eq_getD_getElem?] at h2
          simp only [Option.bind_some]
          cases h4 : a.tmps[d]? with
          | none => rfl
          | some v => rw [h4] at h2; simp at h2; rw [h2]
        simp only [this]
        rfl
      · cases hg
    · cases hg

/-! ### An operation looks at its operands alone, and at the nodes that these name -/
theorem evT_congr {t t' : List TV} {x : Operand} (h : ∀ i, x = .tmp i → t.getD i .undef = t'.getD i .undef) : evT t x = evT t' x := by
  cases x with
  | tmp i => exact h i rfl
  | _ => rfl

theorem srcT_local {h h' : Nat → Option Node} {s : Nat} {tv : TV} (hh : ∀ i ∈ tv.ids, h i = h' i) : srcT h s tv = srcT h' s tv := by
  unfold srcT
  split <;> try rfl
  rename_i id off n s'
  rw [hh id (by simp [TV.ids, Cell.id?])]

theorem appendT_local {P : Program} {h h' : Nat → Option Node} {nid : Nat} {ts tx : TypeId} {s x : TV} (hs : ∀ i ∈ s.ids, h i = h' i) (hx : ∀ i ∈ x.ids, h i = h' i) : appendT P h nid ts tx s x = appendT P h' nid ts tx s x := by
  unfold appendT
  split
  · rfl
  · split
    · rw [srcT_local hx]
      split
      · split
        · split
          · rfl
          · rename_i id off n s'
            rw [hs id (by simp [TV.ids, Cell.id?])]
          · rfl
        · rfl
      · rfl
    · rfl

theorem eff_local {P : Program} {h h' : Nat → Option Node} {nid : Nat} {ev ev' : Operand → TV} {op : Op} (hev : ∀ x ∈ op.operands, ev x = ev' x) (hh : ∀ x ∈ op.operands, ∀ i ∈ (ev x).ids, h i = h' i) : eff P h nid ev op = eff P h' nid ev' op := by
  cases op <;> simp only [eff]
  case move x => rw [hev x (by simp [Op.operands])]
  case assign x => rw [hev x (by simp [Op.operands])]
  case pick c a b => rw [hev c (by simp [Op.operands]), hev a (by simp [Op.operands]), hev b (by simp [Op.operands])]
  case box t x => rw [hev x (by simp [Op.operands])]
  case build t parts =>
    have : parts.toList.map (fun p => (p.1, ev p.2)) = parts.toList.map fun p => (p.1, ev' p.2) := List.map_congr_left fun p hp => by
      rw [hev p.2 (by simp [Op.operands]; exact ⟨p.1, by simpa using hp⟩)]
    rw [this]
  case buildSlice t n parts =>
    have : parts.toList.map (fun p => (p.1, ev p.2)) = parts.toList.map fun p => (p.1, ev' p.2) := List.map_congr_left fun p hp => by
      rw [hev p.2 (by simp [Op.operands]; exact ⟨p.1, by simpa using hp⟩)]
    rw [this]
  case load t a =>
    rw [← hev a (by simp [Op.operands])]
    have := hh a (by simp [Op.operands])
    split
    · split
      · split
        · rename_i id off e
          rw [this id (by rw [e]; simp [TV.ids, Cell.id?])]
        · rfl
        · rfl
      · rfl
    · rfl
  case store t a x =>
    rw [← hev a (by simp [Op.operands]), ← hev x (by simp [Op.operands])]
    have := hh a (by simp [Op.operands])
    split
    · rename_i id off b l e1 e2
      rw [this id (by rw [e1]; simp [TV.ids, Cell.id?])]
    · rfl
  case nilCheck x => rw [hev x (by simp [Op.operands])]
  case binOp op t x y yt => rw [hev x (by simp [Op.operands]), hev y (by simp [Op.operands])]
  case unOp op t x => rw [hev x (by simp [Op.operands])]
  case convert s d x =>
    rw [← hev x (by simp [Op.operands])]
    split <;> try rfl
    rw [srcT_local (hh x (by simp [Op.operands]))]
  case makeSlice t l c => rw [hev l (by simp [Op.operands]), hev c (by simp [Op.operands])]
  case slice t x lo hi mx =>
    cases mx with
    | some _ => rfl
    | none =>
      simp only
      have e1 : lo.map ev = lo.map ev' := by cases lo with
        | none => rfl
        | some y => simp [hev y (by simp [Op.operands])]
      have e2 : hi.map ev = hi.map ev' := by cases hi with
        | none => rfl
        | some y => simp [hev y (by simp [Op.operands])]
      rw [hev x (by simp [Op.operands]), e1, e2]
  case fieldAddr s x f => rw [hev x (by simp [Op.operands])]
  case field s x f => rw [hev x (by simp [Op.operands])]
  case indexAddr t x i => rw [hev x (by simp [Op.operands]), hev i (by simp [Op.operands])]
  case index t x i => rw [hev x (by simp [Op.operands]), hev i (by simp [Op.operands])]
  case extract x i => rw [hev x (by simp [Op.operands])]
  case call c =>
    obtain ⟨callee, args, tys⟩ := c
    cases callee with
    | value _ => rfl
    | invoke _ _ => rfl
    | builtin b =>
      have hargs : ∀ x ∈ args.toList, ev x = ev' x := fun x hx => hev x (by simp [Op.operands, Call.operands]; simpa using hx)
      have e : args.toList.map ev = args.toList.map ev' := List.map_congr_left hargs
      simp only
      rw [← e]
      unfold callT
      split <;> try rfl
      rename_i ts tx s x e1 e2
      have hm : ∀ y, y ∈ args.toList.map ev → ∀ i ∈ y.ids, h i = h' i := by
        intro y hy i hi
        obtain ⟨z, hz, rfl⟩ := List.mem_map.1 hy
        exact hh z (by simp [Op.operands, Call.operands]; simpa using hz) i hi
      exact appendT_local (hm s (by rw [e2]; simp)) (hm x (by rw [e2]; simp))

theorem snapC_local {h h' : Nat → Option Node} {c : Cell} (hh : ∀ i ∈ c.id?, h i = h' i) : snapC h c = snapC h' c := by
  unfold snapC
  split <;> try rfl
  rename_i id off n s
  rw [hh id (by simp [Cell.id?])]

theorem snapL_local {h h' : Nat → Option Node} : ∀ {zs : List Nat} {l : List Cell}, (∀ i ∈ l.flatMap Cell.id?, h i = h' i) → snapL h zs l = snapL h' zs l
  | [], [], _ => rfl
  | _ :: _, [], _ => rfl
  | [], c :: l, hh => by
    simp only [snapL]
    rw [snapC_local (fun i hi => hh i (by simp [hi])), snapL_local (l := l) (fun i hi => hh i (by simp only [List.flatMap_cons, List.mem_append]; exact .inr hi))]
  | s :: zs, c :: l, hh => by
    have h1 := snapC_local (c := c) (fun i hi => hh i (by simp [hi]))
    have h2 := fun zs => snapL_local (zs := zs) (l := l) (fun i hi => hh i (by simp only [List.flatMap_cons, List.mem_append]; exact .inr hi))
    cases c <;> simp only [snapL, h2, h1]

theorem argT_local {h h' : Nat → Option Node} {m : Mode} {x : TV} (hh : ∀ i ∈ x.ids, h i = h' i) : argT h m x = argT h' m x := by
  unfold argT
  split
  · rename_i b l
    rw [snapL_local (h' := h') (fun i hi => hh i hi)]
  · rfl
  · rename_i id off
    rw [hh id (by simp [TV.ids, Cell.id?])]
  · rename_i id off n s
    rw [hh id (by simp [TV.ids, Cell.id?])]
  · rfl

theorem giveL_local {h h' : Nat → Option Node} : ∀ {l : List Cell} {k : Nat}, (∀ i ∈ l.flatMap Cell.id?, h i = h' i) → giveL h k l = giveL h' k l
  | [], _, _ => rfl
  | c :: l, k, hh => by
    have h2 := fun k => giveL_local (k := k) (l := l) (fun i hi => hh i (by simp only [List.flatMap_cons, List.mem_append]; exact .inr hi))
    cases c with
    | prim v => simp only [giveL, h2]
    | nil => simp only [giveL, h2]
    | sl o n s x => cases o <;> simp only [giveL, h2]
    | ref id off n s =>
      simp only [giveL, h2]
      rw [hh id (by simp [Cell.id?])]
    | _ => rfl

theorem argsG_local {h h' : Nat → Option Node} : ∀ {ms : List Mode} {xs : List TV} {k : Nat}, (∀ x ∈ xs, ∀ i ∈ x.ids, h i = h' i) → argsG h k ms xs = argsG h' k ms xs
  | [], [], _, _ => rfl
  | m :: _, [], _, _ => by cases m <;> rfl
  | [], x :: xs, k, hh => by
    simp only [argsG]
    rw [argT_local (hh x (by simp)), argsG_local (fun y hy => hh y (by simp [hy]))]
  | m :: ms, x :: xs, k, hh => by
    have h1 := argT_local (m := m) (hh x (by simp))
    have h2 := fun k => argsG_local (ms := ms) (k := k) (xs := xs) (fun y hy => hh y (by simp [hy]))
    cases m with
    | str =>
      cases x with
      | v b l =>
        simp only [argsG]
        rw [giveL_local (h' := h') (fun i hi => hh (.v b l) (by simp) i hi)]
        simp only [h2]
      | _ => simp only [argsG, h1, h2]
    | _ => simp only [argsG, h1, h2]

theorem argsT_local {h h' : Nat → Option Node} {ms : List Mode} {xs : List TV} (hh : ∀ x ∈ xs, ∀ i ∈ x.ids, h i = h' i) : argsT h ms xs = argsT h' ms xs := by
  unfold argsT; rw [argsG_local hh]
end

section
open Go Go.RowKit

/-- Operation `i` may be done in whatever state agrees with `σ` in what it looks at. -/
def OpOK (P : Program) (nid : Nat) (ops : Array Oper) (i : Nat) (σ : St) (r : TV) (l : Upds) : Prop :=
  ∀ (k : Base) (n : Nat) (L0 : Nat → Nat × Nat) (bd : Nat → Prop) (τ : St) (a : Act) (w : World) (Q : Exit → Act → World → Prop) (K : Act → World → Prop),
    RSb k n L0 bd τ a w →
    (∀ o, ops[i]? = some o → (∀ t ∈ tmpsR ops o, τ.tv t = σ.tv t) ∧ ∀ id ∈ nodesR σ o, τ.nd id = σ.nd id) →
    (∀ j, j < 16 → τ.nd (nid + j) = none ∧ ¬ bd (nid + j)) →
    (∀ a' w', RSb k n L0 (fun x => bd x ∨ x ∈ l.map (·.1)) (τ.app ((ops[i]?).bind (·.dst)) r l) a' w' → K a' w') →
    wpOp P ops Q i K a w

theorem guardT_congr {ops : Array Oper} {t t' : List TV} {o : Oper} (h : ∀ i ∈ tmpsR ops o, t'.getD i .undef = t.getD i .undef) : guardT ops t' o = guardT ops t o := by
  unfold guardT
  split
  · rfl
  · rename_i j want e
    split
    · rename_i d hd
      rw [h d (by simp [tmpsR, e, hd])]
    · rfl

theorem ev_congr {ops : Array Oper} {t t' : List TV} {o : Oper} (h : ∀ i ∈ tmpsR ops o, t'.getD i .undef = t.getD i .undef) : ∀ x ∈ o.op.operands, evT t' x = evT t x := fun x hx =>
  evT_congr fun i e => h i (by simp [tmpsR]; left; exact ⟨x, hx, by subst e; rfl⟩)

theorem app_rsb {k : Base} {n : Nat} {L0 : Nat → Nat × Nat} {bd' : Nat → Prop} {τ : St} {a : Act} {w w' : World} {L F U L' F' U'} {d : Option Nat} {v : Value} {r : TV} {l : Upds}
    (hlen : τ.t.length ≤ a.tmps.size) (hd : a.defers = []) (ht : ∀ i, RTV (SS k τ.nd L F w) U L w (a.tmps.getD i undef) (τ.tv i)) (hn : ∀ i, i < n → U i ∧ L i = L0 i)
    (m' : Mem k (ups τ.nd l) w' L' F' U') (mo : Mono k τ.nd w L F U (ups τ.nd l) w' L' F' U') (hv : RTV (SS k (ups τ.nd l) L' F' w') U' L' w' v r) (hU : ∀ i, U' i → bd' i) :
    RSb k n L0 bd' (τ.app d r l) (a.put d v) w' := by
  obtain ⟨p1, p2, p3⟩ := put_rtv (d := d) (r := r) (l := l) hlen (fun i => mo.rtv (ht i)) hv
  refine ⟨⟨L', F', U', by rw [nd_app]; exact m', fun i => by rw [nd_app]; exact p1 i, hU, fun i hi => ?_⟩, p2, p3.trans hd⟩
  obtain ⟨h1, h2⟩ := hn i hi
  obtain ⟨h3, h4⟩ := mo.2.1 i h1
  exact ⟨h3, h4.trans h2⟩

theorem opSkip_ok {P : Program} {nid : Nat} {ops : Array Oper} {i : Nat} {σ : St} {o : Oper} (ho : ops[i]? = some o) (hg : guardT ops σ.t o = some false) : OpOK P nid ops i σ (.tup []) [] := by
  intro k n L0 bd τ a w Q K hrs hag _ hK
  obtain ⟨h1, _⟩ := hag o ho
  obtain ⟨⟨L, F, U, m, ht, hU, hn⟩, hlen, hd⟩ := hrs
  have hg' := guard_wanted ht ((guardT_congr (t := σ.t) (t' := τ.t) h1).trans hg)
  simp only [wpOp, ho, hg', Bool.false_eq_true, if_false]
  refine hK _ _ ?_
  rw [ho]
  exact app_rsb hlen hd ht hn m (Mono.refl _ _ _ _ _ _) ⟨#[], rfl, rfl, fun i y c h1 _ => by simp at h1⟩ (fun i hi => .inl (hU i hi))

theorem opEff_ok {P : Program} {nid : Nat} {ops : Array Oper} {i : Nat} {σ : St} {o : Oper} {r : TV} {l : Upds} (ho : ops[i]? = some o) (hg : guardT ops σ.t o = some true)
    (he : eff P σ.nd nid (evT σ.t) o.op = some (r, l)) : OpOK P nid ops i σ r l := by
  intro k n L0 bd τ a w Q K hrs hag hfr hK
  obtain ⟨h1, h2⟩ := hag o ho
  obtain ⟨⟨L, F, U, m, ht, hU, hn⟩, hlen, hd⟩ := hrs
  have hg' := guard_wanted ht ((guardT_congr (t := σ.t) (t' := τ.t) h1).trans hg)
  have hev := ev_congr (t := σ.t) (t' := τ.t) h1
  have he' : eff P τ.nd nid (evT τ.t) o.op = some (r, l) := by
    by_cases hm : ∃ y, o.op = .move y
    · obtain ⟨y, hy⟩ := hm
      have e1 := hev y (by rw [hy]; simp [Op.operands])
      rw [hy] at he ⊢
      simp only [eff] at he ⊢
      rw [e1]; exact he
    · have ho2 : opN o.op = o.op.operands.toList := by
        unfold opN
        split
        · rename_i y hy; exact absurd ⟨y, hy⟩ hm
        · rfl
      rw [eff_local (h := τ.nd) (h' := σ.nd) hev (fun x hx j hj => ?_)]
      · exact he
      · rw [hev x hx] at hj
        exact h2 j (by simp only [nodesR, ho2, List.mem_flatMap]; exact ⟨x, by simpa using hx, hj⟩)
  obtain ⟨hn0, hb0⟩ := hfr 0 (by omega)
  obtain ⟨nx, w', L', F', U', e1, e2, m', mo, hU'⟩ := eff_sound m hn0 (fun h => hb0 (hU _ h)) (fun x => evT_rtv ht x) o he'
  simp only [wpOp, ho, hg', if_true]
  left
  unfold Oper.wp
  rw [e1]
  have hUU : ∀ i, U' i → bd i ∨ i ∈ l.map (·.1) := fun i hi => (hU' i hi).imp (hU i) id
  rcases e2 with ⟨v, rfl, hv⟩ | ⟨rfl, rfl⟩
  · simp only [Oper.upon]
    refine hK _ _ ?_
    rw [ho]
    exact app_rsb hlen hd ht hn m' mo hv hUU
  · simp only [Oper.upon]
    refine hK _ _ ?_
    rw [ho]
    exact app_rsb hlen hd ht hn m' mo trivial hUU
end

section
open Go Go.RowKit

abbrev noU : Nat → Prop := fun _ => False
abbrev noL : Nat → Nat × Nat := fun _ => (0, 0)

/-- How a result stands for its cells; `G`: the blocks that it brings. -/
def RVo (S : Nat → Prop) (w : World) (x : Value) : Bool × List Cell → List Nat → Prop
  | (false, l), G => Rep S noU noL w [x] l G
  | (true, l), G => ∃ vs : Array Value, x = .agg vs ∧ Rep S noU noL w vs.toList l G

def RVs (S : Nat → Prop) (w : World) : List Value → List (Bool × List Cell) → List Nat → Prop
  | [], [], G => G = []
  | x :: xs, v :: vs, G => ∃ G1 G2, G = G1 ++ G2 ∧ RVo S w x v G1 ∧ RVs S w xs vs G2
  | _, _, _ => False

def packV (xs : List Value) : Value := if h : xs.length = 1 then xs[0] else .tuple xs.toArray

/-- The blocks of what comes back, by the place of the argument. -/
def OutOwn (L0 : Nat → Nat × Nat) (Fo : Nat → List Nat) (outs : List (Option (List Cell))) (j : Nat) : List Nat :=
  match outs[j]? with
  | some (some c) => OB (L0 j).1 (Fo j) c
  | _ => []

def FinS (k : Base) (L0 : Nat → Nat × Nat) (outs : List (Option (List Cell))) (G : List Nat) (Fo : Nat → List Nat) (w' : World) (b : Nat) : Prop :=
  (k.S0 b ∨ b ∈ k.B0 ∨ k.w0.heap.size ≤ b) ∧ b < w'.heap.size ∧ b ∉ G ∧ ∀ j, b ∉ OutOwn L0 Fo outs j

structure FinOK (k : Base) (L0 : Nat → Nat × Nat) (vals : List (Bool × List Cell)) (outs : List (Option (List Cell))) (xs : List Value) (G : List Nat) (Fo : Nat → List Nat) (w' : World) : Prop where
  res : RVs (FinS k L0 outs G Fo w') w' xs vals G
  back : ∀ j cs, outs[j]? = some (some cs) → ∃ us, w'.rangeAt (L0 j).1 (L0 j).2 us ∧ Rep (FinS k L0 outs G Fo w') noU noL w' us cs (Fo j) ∧ (cs ≠ [] → Wr w' (L0 j).1 ((L0 j).2 + us.length)) ∧ closedL cs = true
  nodup : G.Nodup
  nodupO : ∀ j, (OutOwn L0 Fo outs j).Nodup
  disjG : ∀ j, ∀ b ∈ OutOwn L0 Fo outs j, b ∉ G
  disj : ∀ i j, i ≠ j → ∀ b ∈ OutOwn L0 Fo outs i, b ∉ OutOwn L0 Fo outs j
  inG : ∀ b ∈ G, k.w0.heap.size ≤ b ∨ b ∈ k.B0
  inO : ∀ j, ∀ b ∈ OutOwn L0 Fo outs j, k.w0.heap.size ≤ b ∨ b ∈ k.B0
  frame : ∀ b, b < k.w0.heap.size → b ∉ k.B0 → w'.heap[b]? = k.w0.heap[b]?
  os : w'.os = k.w0.os
  tape : w'.tape = k.w0.tape
  output : w'.output = k.w0.output
  grows : Grows k.w0 w'

def Fin (k : Base) (L0 : Nat → Nat × Nat) (vals : List (Bool × List Cell)) (outs : List (Option (List Cell))) (v : Value) (w' : World) : Prop :=
  ∃ xs G Fo, v = packV xs ∧ FinOK k L0 vals outs xs G Fo w'

def CallOK (P : Program) (f : FuncId) (as : List Arg) (vals : List (Bool × List Cell)) (outs : List (Option (List Cell))) : Prop :=
  ∀ (k : Base) (L0 : Nat → Nat × Nat) (F0 : Nat → List Nat) (vs : Array Value), vs.size ≤ as.length ∧ (noEx as = true → vs.size = as.length) → Mem k (ndOf (as.map Arg.node)) k.w0 L0 F0 (· < as.length) →
    (∀ i, RTV (SS k (ndOf (as.map Arg.node)) L0 F0 k.w0) (· < as.length) L0 k.w0 (vs.getD i undef) ((argTVs 0 as).getD i .undef)) →
    Calls P f vs k.w0 fun e w' => ∃ v, e = .returned v ∧ Fin k L0 vals outs v w'

section
variable {k : Base} {h : Nat → Option Node} {w : World} {L : Nat → Nat × Nat} {F : Nat → List Nat} {U : Nat → Prop} {P : Program}

theorem rep_sub {S U L w} {vs : List Value} {cs : List Cell} {G : List Nat} (r : Rep S U L w vs cs G) {S' : Nat → Prop} (hS : ∀ b, S b → S' b) : Rep S' U L w vs cs G :=
  r.carry (fun b hb => ⟨hS b hb, rfl⟩) (fun _ hi => ⟨hi, rfl⟩) (fun _ _ => rfl) (Grows.refl _)

theorem own0_only {S U L w} {x : Value} {s : Nat} {G : List Nat} (hr : Rep S U L w [x] [.sl true 0 s []] G) {Q : Value → Prop} (h : ∀ p, zp p → Q (.slice p 0 0)) : Q x := by
  cases hr with
  | own _ _ _ _ _ hz _ _ => exact absurd rfl hz
  | own0 hp _ => exact h _ hp

/-- A cell of a result, drawn out of its node. -/
theorem exC_rep (m : Mem k h w L F U) {x : Value} {c c' : Cell} {used : List Nat} {S' : Nat → Prop} (hS : ∀ b, SS k h L F w b → S' b) (hr : Rep (SS k h L F w) U L w [x] [c] []) (he : exC h c = some (c', used)) :
    Rep S' noU noL w [x] [c'] (used.flatMap (Own h L F)) := by
  unfold exC at he
  split at he
  · obtain ⟨rfl, rfl⟩ := Prod.mk.inj (Option.some.inj he)
    exact (rep_sub hr hS).free (by simp [closedL, Cell.closed])
  · obtain ⟨rfl, rfl⟩ := Prod.mk.inj (Option.some.inj he)
    exact (rep_sub hr hS).free (by simp [closedL, Cell.closed])
  · obtain ⟨rfl, rfl⟩ := Prod.mk.inj (Option.some.inj he)
    cases hr with
    | ro0 h1 hn => cases hn; exact .ro0 h1 .nil
    | ro h1 h2 h3 h4 hc h5 hn => cases hn; exact .ro (fun hl => hS _ (h1 hl)) h2 h3 h4 hc ((rep_sub h5 hS).free hc) .nil
  · obtain ⟨rfl, rfl⟩ := Prod.mk.inj (Option.some.inj he)
    rename_i s; exact own0_only hr (Q := fun x => Rep S' noU noL w [x] [.sl true 0 s []] (List.flatMap (Own h L F) [])) (fun p hp => .own0 hp .nil)
  · rename_i id off n s
    split at he
    · rename_i cs hid
      split at he
      · rename_i hc
        obtain ⟨rfl, rfl⟩ := Prod.mk.inj (Option.some.inj he)
        obtain ⟨rfl, hl, hsz, hs⟩ := hc
        obtain ⟨_, us, g1, g2, g3, _⟩ := m.node id _ hid
        simp only at g2
        have hcl := g2.closed hs
        cases hr with
        | ref0 hU hp hnil =>
          cases hnil
          obtain rfl : cs = [] := by simpa using hl
          have := @Rep.own0 S' noU noL w _ s [] [] [] hp .nil
          simpa [own_of hid, OB] using this
        | ref hU hW hn hz hnil =>
          cases hnil
          have hne : cs ≠ [] := fun e => by
            rw [e] at hl
            rcases Nat.mul_eq_zero.1 (show n * s = 0 from hl.symm) with q | q
            · exact hz q
            · exact hsz q
          have := @Rep.own S' noU noL w (L id).1 ((L id).2 + 0) n _ s cs us (F id) [] [] [] (by simpa using hW) hl hn (by simpa using g1) hcl hne ((rep_sub g2 hS).free hcl) .nil
          simpa [own_ne hid hne] using this
      · cases he
    · rename_i cs hid
      split at he
      · rename_i hc
        obtain ⟨rfl, rfl⟩ := Prod.mk.inj (Option.some.inj he)
        obtain ⟨_, us, g1, g2, g3, g4⟩ := m.node id _ hid
        obtain ⟨g5, g6⟩ := g4 rfl
        simp only at g2
        rw [g5] at g2
        have hl := g2.length
        have hsub := rep_take (n * s) (rep_drop off g2)
        have hcl := hsub.closed hc.2
        cases hr with
        | ref0 hU hp hnil =>
          cases hnil
          simpa using @ro_zero S' noU noL w _ s [] [] [] hp .nil
        | ref hU hW hn hz hnil =>
          cases hnil
          exact .ro (us := (us.drop off).take (n * s)) (fun hne => hS _ (g6 (fun e => hne (by simp only at e; rw [e]; simp)))) (by simp; omega) hn (rangeAt_take (rangeAt_drop g1 off) _) hcl ((rep_sub hsub hS).free hcl) .nil
      · cases he
    · cases he
  · rename_i id off
    split at he
    · rename_i cs hid
      split at he
      · rename_i hc
        obtain ⟨rfl, rfl⟩ := Prod.mk.inj (Option.some.inj he)
        obtain ⟨rfl, hne, hs⟩ := hc
        have hne : cs ≠ [] := fun e => by rw [e] at hne; cases hne
        obtain ⟨_, us, g1, g2, g3, _⟩ := m.node id _ hid
        simp only at g2 g3
        have hcl := g2.closed hs
        cases hr with
        | ptr hU hnil =>
          cases hnil
          have := @Rep.ownp S' noU noL w (L id).1 ((L id).2 + 0) cs us (F id) [] [] [] (by have := g2.length; have := g3 hne; rw [Nat.add_zero, ← g2.length]; exact this) (by simpa using g1) hcl hne ((rep_sub g2 hS).free hcl) .nil
          simpa [own_ne hid hne] using this
      · cases he
    · cases he
  · cases he

theorem rep_cons {S U L w} {v : Value} {vs : List Value} {c : Cell} {cs : List Cell} {G : List Nat} (r : Rep S U L w (v :: vs) (c :: cs) G) : ∃ G1 G2, G = G1 ++ G2 ∧ Rep S U L w [v] [c] G1 ∧ Rep S U L w vs cs G2 := by
  obtain ⟨v1, v2, G1, G2, e1, e2, r1, r2⟩ := Rep.split (cs1 := [c]) (cs2 := cs) r
  have hl := r1.length
  match v1, hl with
  | [a], _ =>
    obtain ⟨rfl, rfl⟩ := List.cons.inj e1
    exact ⟨G1, G2, e2, r1, r2⟩

theorem exL_rep (m : Mem k h w L F U) {S' : Nat → Prop} (hS : ∀ b, SS k h L F w b → S' b) : ∀ {zs : List Nat} {cs cs' : List Cell} {xs : List Value} {used : List Nat}, Rep (SS k h L F w) U L w xs cs [] → exL h zs cs = some (cs', used) →
    Rep S' noU noL w xs cs' (used.flatMap (Own h L F))
  | zs, [], cs', xs, used, hr, he => by
    have he : some (([] : List Cell), ([] : List Nat)) = some (cs', used) := by cases zs <;> exact he
    obtain ⟨rfl, rfl⟩ := Prod.mk.inj (Option.some.inj he)
    have := hr.length
    obtain rfl : xs = [] := by simpa using this
    exact .nil
  | zs, c :: cs, cs', xs, used, hr, he => by
    match xs, hr with
    | [], hr => have := hr.length; simp at this
    | x :: xs, hr =>
      obtain ⟨G1, G2, e, r1, r2⟩ := rep_cons hr
      obtain ⟨rfl, rfl⟩ := List.append_eq_nil_iff.1 e.symm
      unfold exL at he
      split at he
      · rename_i e3; cases e3
      · rename_i s zs' cs0 e3
        obtain ⟨rfl, rfl⟩ := List.cons.inj e3
        split at he
        · rename_i cs'' j e2
          obtain ⟨rfl, rfl⟩ := Prod.mk.inj (Option.some.inj he)
          obtain rfl := rep_nilc r1
          exact .own0 (.inl rfl) (exL_rep m hS r2 e2)
        · cases he
      · rename_i c0 cs0 _ e3
        obtain ⟨rfl, rfl⟩ := List.cons.inj e3
        split at he
        · rename_i c' i cs'' j e1 e2
          obtain ⟨rfl, rfl⟩ := Prod.mk.inj (Option.some.inj he)
          have h1 := exC_rep m hS r1 e1
          have h2 := exL_rep m hS r2 e2
          have := h1.append h2
          simpa using this
        · cases he

theorem exV_rep (m : Mem k h w L F U) {S' : Nat → Prop} (hS : ∀ b, SS k h L F w b → S' b) : ∀ {zs : List (List Nat)} {vs vs' : List (Bool × List Cell)} {xs : List Value} {used : List Nat},
    xs.length = vs.length → (∀ (i : Nat) x v, xs[i]? = some x → vs[i]? = some v → RV (SS k h L F w) U L w x v) → exV h zs vs = some (vs', used) → RVs S' w xs vs' (used.flatMap (Own h L F))
  | zs, [], vs', xs, used, hl, hr, he => by
    obtain ⟨rfl, rfl⟩ := Prod.mk.inj (Option.some.inj he)
    obtain rfl : xs = [] := by simpa using hl
    rfl
  | zs, (b, l) :: vs, vs', xs, used, hl, hr, he => by
    unfold exV at he
    split at he
    · rename_i l' i vs'' j e1 e2
      obtain ⟨rfl, rfl⟩ := Prod.mk.inj (Option.some.inj he)
      match xs, hl with
      | x :: xs, hl =>
        have h0 := hr 0 x (b, l) rfl rfl
        refine ⟨i.flatMap (Own h L F), j.flatMap (Own h L F), by simp, ?_, exV_rep m hS (by simpa using hl) (fun i x v h1 h2 => hr (i + 1) x v h1 h2) e2⟩
        cases b with
        | false => exact exL_rep m hS h0 e1
        | true => obtain ⟨ws, rfl, h0⟩ := h0; exact ⟨ws, rfl, exL_rep m hS h0 e1⟩
    · cases he

/-- One result variable, read. -/
def resSem (tmps : Array Value) : ResultVar → Sem Value
  | .tmp t => pure (tmps.getD t undef)
  | .cell c t => do loadVar t (← asAddr (tmps.getD c undef))

theorem results_eq (fn : Func) (tmps : Array Value) : results fn tmps = (fn.results.mapM (resSem tmps) >>= fun vs => pure (if h : vs.size = 1 then vs[0] else .tuple vs)) := by
  unfold results
  congr 1

theorem resVar_run (m : Mem k h w L F U) {σ : St} {a : Act} (hσ : σ.nd = h) (ht : ∀ i, RTV (SS k h L F w) U L w (a.tmps.getD i undef) (σ.tv i)) {r : ResultVar} {v : Bool × List Cell} (he : resVarT P σ r = some v) :
    ∃ x, (resSem a.tmps r).run P w = .ok x w ∧ RV (SS k h L F w) U L w x v := by
  unfold resVarT at he
  split at he
  · rename_i t
    split at he
    · rename_i b l e
      obtain rfl := Option.some.inj he
      have := ht t
      rw [e] at this
      exact ⟨_, rfl, this⟩
    · cases he
  · rename_i c ty
    split at he
    · rename_i id off s r e hs hrw
      split at he
      · rename_i o cs hid
        split at he
        · rename_i hc
          obtain rfl := Option.some.inj he
          have hx := ht c
          rw [e] at hx
          rw [hσ] at hid
          obtain ⟨_, us, h1, h2, h3, _⟩ := m.node id _ hid
          simp only at h2
          have hl := h2.length
          show ∃ x, ((do loadVar ty (← asAddr (a.tmps.getD c undef)) : Sem Value).run P w = .ok x w) ∧ _
          generalize a.tmps.getD c undef = q at hx ⊢
          cases hx with
          | ptr hU hn =>
            cases hn
            obtain ⟨y, hy, e1, e2⟩ := run_load_t (P := P) (us := (us.drop off).take s) hs hrw hc.1 (by simp; omega) (rangeAt_take (rangeAt_drop h1 off) s)
            refine ⟨y, ?_, rv_load (rep_mid off s h2 hc.2.2) e1 e2⟩
            simpa [Instr.loadAt, Instr.sureAddr, asAddr] using hy
        · cases he
      · cases he
    · cases he

theorem resVars_run (m : Mem k h w L F U) {σ : St} {a : Act} (hσ : σ.nd = h) (ht : ∀ i, RTV (SS k h L F w) U L w (a.tmps.getD i undef) (σ.tv i)) : ∀ {rs : List ResultVar} {rv : List (Bool × List Cell)}, resVarsT P σ rs = some rv →
    ∃ xs, (rs.mapM (resSem a.tmps)).run P w = .ok xs w ∧
      xs.length = rv.length ∧ ∀ (i : Nat) x v, xs[i]? = some x → rv[i]? = some v → RV (SS k h L F w) U L w x v
  | [], rv, he => by
    obtain rfl := Option.some.inj he
    exact ⟨[], rfl, rfl, fun i x v h1 _ => by simp at h1⟩
  | r :: rs, rv, he => by
    unfold resVarsT at he
    split at he
    · rename_i v vs e1 e2
      obtain rfl := Option.some.inj he
      obtain ⟨x, h1, h2⟩ := resVar_run m hσ ht e1
      obtain ⟨xs, h3, h4, h5⟩ := resVars_run m hσ ht e2
      refine ⟨x :: xs, ?_, by simp [h4], fun i y z hy hz => ?_⟩
      · rw [List.mapM_cons]
        simp only [Sem.run_bind, h1, Result.andThen_ok, h3, Sem.run_pure]
      · cases i with
        | zero => obtain rfl := Option.some.inj hy; obtain rfl := Option.some.inj hz; exact h2
        | succ i => exact h5 i y z hy hz
    · cases he

theorem outsT_get {used : List Nat} : ∀ {as : List Arg} {j0 j : Nat} {cs : List Cell}, (outsT h used j0 as)[j]? = some (some cs) → ∃ a, as[j]? = some a ∧ outT h used (j0 + j) a = some cs
  | [], _, _, _, he => by simp [outsT] at he
  | a :: as, j0, 0, cs, he => ⟨a, rfl, by simpa [outsT] using he⟩
  | a :: as, j0, j + 1, cs, he => by
    obtain ⟨b, h1, h2⟩ := outsT_get (as := as) (j0 := j0 + 1) (j := j) (by simpa [outsT] using he)
    exact ⟨b, h1, by rw [show j0 + (j + 1) = j0 + 1 + j by omega]; exact h2⟩

theorem outT_some {used : List Nat} {j : Nat} {a : Arg} {cs : List Cell} (he : outT h used j a = some cs) : j ∉ used ∧ h j = some (true, cs) ∧ cs.all Cell.shal = true := by
  unfold outT at he
  split at he
  · cases he
  · split at he
    · cases he
    · rename_i hu
      split at he
      · rename_i cs' hj
        split at he
        · rename_i hs
          obtain rfl := Option.some.inj he
          exact ⟨by simpa using hu, hj, hs⟩
        · cases he
      · cases he

/-- THE END. -/
theorem fin_ok {n : Nat} {L0 : Nat → Nat × Nat} {fn : Func} {σ : St} {a : Act} {as : List Arg} {vals : List (Bool × List Cell)} {outs : List (Option (List Cell))} (hrs : RS k n L0 σ a w) (hn : as.length = n) {zs : List (List Nat)} (he : finT P fn zs σ as = some (vals, outs)) :
    ∃ v, (results fn a.tmps).run P w = .ok v w ∧ Fin k L0 vals outs v w := by
  obtain ⟨⟨L, F, U, m, ht, hU, hnn⟩, hlen, hd⟩ := hrs
  unfold finT at he
  split at he
  · rename_i rv hrv
    split at he
    · rename_i vs used hex
      split at he
      · rename_i hnd
        obtain ⟨rfl, rfl⟩ := Prod.mk.inj (Option.some.inj he)
        obtain ⟨xs, h1, h2, h3⟩ := resVars_run (P := P) m rfl ht hrv
        have hO : ∀ j cs, (outsT σ.nd used 0 as)[j]? = some (some cs) → j < n ∧ j ∉ used ∧ σ.nd j = some (true, cs) ∧ cs.all Cell.shal = true := fun j cs hj => by
          obtain ⟨b, g1, g2⟩ := outsT_get hj
          rw [Nat.zero_add] at g2
          exact ⟨by rw [← hn]; exact (List.getElem?_eq_some_iff.1 g1).1, outT_some g2⟩
        have hOO : ∀ j, OutOwn L0 F (outsT σ.nd used 0 as) j = [] ∨ (j < n ∧ j ∉ used ∧ OutOwn L0 F (outsT σ.nd used 0 as) j = Own σ.nd L F j) := fun j => by
          unfold OutOwn
          split
          · rename_i cs hj
            obtain ⟨g1, g2, g3, _⟩ := hO j cs hj
            exact .inr ⟨g1, g2, by rw [own_of g3, (hnn j g1).2]⟩
          · exact .inl rfl
        have hG : ∀ b, b ∈ used.flatMap (Own σ.nd L F) → ∃ i ∈ used, b ∈ Own σ.nd L F i := fun b hb => by simpa using hb
        have hS : ∀ b, SS k σ.nd L F w b → FinS k L0 (outsT σ.nd used 0 as) (used.flatMap (Own σ.nd L F)) F w b := fun b hb =>
          ⟨hb.1, hb.2.1, fun hc => by obtain ⟨i, _, hi⟩ := hG b hc; exact hb.2.2 i hi, fun j hj => by
            rcases hOO j with e | ⟨_, _, e⟩
            · rw [e] at hj; cases hj
            · rw [e] at hj; exact hb.2.2 j hj⟩
        refine ⟨packV xs, ?_, xs, used.flatMap (Own σ.nd L F), F, rfl, ⟨exV_rep m hS h2 h3 hex, fun j cs hj => ?_, ?_, fun j => ?_, fun j b hb hc => ?_, fun i j hij b hb hc => ?_, fun b hb => ?_, fun j b hb => ?_, m.frame, m.os, m.tape, m.output, m.grows⟩⟩
        · rw [results_eq, Array.mapM_eq_mapM_toList]
          simp only [Sem.run_bind, Sem.run_map, h1, Result.andThen_ok, Sem.run_pure]
          unfold packV
          by_cases hx : xs.length = 1
          · have : xs.toArray.size = 1 := by simpa using hx
            rw [dif_pos hx, dif_pos this]; simp
          · have : ¬ xs.toArray.size = 1 := by simpa using hx
            rw [dif_neg hx, dif_neg this]
        · obtain ⟨g1, g2, g3, g4⟩ := hO j cs hj
          obtain ⟨_, us, q1, q2, q3, _⟩ := m.node j _ g3
          simp only at q2
          rw [← (hnn j g1).2]
          exact ⟨us, q1, (rep_sub q2 hS).free (q2.closed g4), q3, q2.closed g4⟩
        · clear hex hOO hS hO he hG
          induction used with
          | nil => simp
          | cons i used ih =>
            have hnd' := List.nodup_cons.1 hnd
            rw [List.flatMap_cons]
            refine List.nodup_append.2 ⟨m.nodup i, ih hnd'.2, fun a ha b hb e => ?_⟩
            obtain ⟨j, hj, hb'⟩ := List.mem_flatMap.1 hb
            exact m.disj i j (fun e' => hnd'.1 (e' ▸ hj)) a ha (e ▸ hb')
        · rcases hOO j with e | ⟨_, _, e⟩
          · rw [e]; simp
          · rw [e]; exact m.nodup j
        · rcases hOO j with e | ⟨_, hu, e⟩
          · rw [e] at hb; cases hb
          · rw [e] at hb
            obtain ⟨i, hi, hi'⟩ := hG b hc
            exact m.disj j i (fun e' => hu (e' ▸ hi)) b hb hi'
        · rcases hOO i with e | ⟨_, _, e⟩
          · rw [e] at hb; cases hb
          · rcases hOO j with e' | ⟨_, _, e'⟩
            · rw [e'] at hc; cases hc
            · rw [e] at hb; rw [e'] at hc; exact m.disj i j hij b hb hc
        · obtain ⟨i, _, hi⟩ := hG b hb; exact m.inB i b hi
        · rcases hOO j with e | ⟨_, _, e⟩
          · rw [e] at hb; cases hb
          · rw [e] at hb; exact m.inB j b hb
      · cases he
    · cases he
  · cases he
end
end

section
open Go Go.RowKit

section
variable {k : Base} {h : Nat → Option Node} {w : World} {L : Nat → Nat × Nat} {F : Nat → List Nat} {U : Nat → Prop} {P : Program}

theorem giveL_get : ∀ {l l' : List Cell} {k : Nat} {e : List (Nat × List Cell)}, giveL h k l = some (l', e) → ∀ q ∈ e, h q.1 = some (true, q.2) ∧ q.2.all Cell.shal = true
  | [], l', k, e, he => by
    simp only [giveL, Option.some.injEq, Prod.mk.injEq] at he
    obtain ⟨_, rfl⟩ := he
    intro q hq; cases hq
  | c :: l, l', k, e, he => by
    have one : ∀ {c'}, (match giveL h k l with | some (l', e) => some (c' :: l', e) | none => none) = some (l', e) → ∀ q ∈ e, h q.1 = some (true, q.2) ∧ q.2.all Cell.shal = true := fun {c'} hh => by
      cases e1 : giveL h k l with
      | none => rw [e1] at hh; cases hh
      | some p =>
        rw [e1] at hh
        obtain ⟨l1, e2⟩ := p
        obtain ⟨_, rfl⟩ := Prod.mk.inj (Option.some.inj hh)
        exact giveL_get e1
    cases c with
    | prim v => exact one he
    | nil => exact one he
    | sl o n s x => cases o with
      | false => exact one he
      | true => cases he
    | ref id off n s =>
      simp only [giveL] at he
      split at he
      · rename_i cs hid
        split at he
        · rename_i hc
          split at he
          · rename_i l1 e1 he1
            obtain ⟨_, rfl⟩ := Prod.mk.inj (Option.some.inj he)
            intro q hq
            rcases List.mem_cons.1 hq with rfl | hq
            · exact ⟨hid, hc.2.2⟩
            · exact giveL_get he1 q hq
          · cases he
        · cases he
      · cases he
    | _ => cases he

theorem giveL_rep {S' : Nat → Prop} {U' : Nat → Prop} {L' : Nat → Nat × Nat} (hS : ∀ b, SS k h L F w b → S' b) : ∀ {cs cs' : List Cell} {xs : List Value} {i : Nat} {e : List (Nat × List Cell)},
    Rep (SS k h L F w) U L w xs cs [] → giveL h i cs = some (cs', e) → (∀ p q, e[p]? = some q → U' (i + p) ∧ L' (i + p) = L q.1) → Rep S' U' L' w xs cs' []
  | [], cs', xs, i, e, hr, he, _ => by
    simp only [giveL, Option.some.injEq, Prod.mk.injEq] at he
    obtain ⟨rfl, _⟩ := he
    have := hr.length
    obtain rfl : xs = [] := by simpa using this
    exact .nil
  | c :: cs, cs', xs, i, e, hr, he, hu => by
    match xs, hr with
    | [], hr => have := hr.length; simp at this
    | x :: xs, hr =>
      obtain ⟨G1, G2, eG, r1, r2⟩ := rep_cons hr
      obtain ⟨rfl, rfl⟩ := List.append_eq_nil_iff.1 eG.symm
      have one : ∀ {c'}, (∀ {T : List Cell} {ys : List Value}, Rep S' U' L' w ys T [] → Rep S' U' L' w (x :: ys) (c' :: T) []) → (match giveL h i cs with | some (l', e) => some (c' :: l', e) | none => none) = some (cs', e) → Rep S' U' L' w (x :: xs) cs' [] := fun {c'} hc hh => by
        cases e1 : giveL h i cs with
        | none => rw [e1] at hh; cases hh
        | some p =>
          rw [e1] at hh
          obtain ⟨l1, e2⟩ := p
          obtain ⟨rfl, rfl⟩ := Prod.mk.inj (Option.some.inj hh)
          exact hc (giveL_rep hS r2 e1 hu)
      have fr : ∀ {c : Cell}, closedL [c] = true → Rep (SS k h L F w) U L w [x] [c] [] → ∀ {T : List Cell} {ys : List Value}, Rep S' U' L' w ys T [] → Rep S' U' L' w (x :: ys) (c :: T) [] := fun hcl r T ys ht => ((rep_sub r hS).free hcl).append ht
      cases c with
      | prim v => exact one (fr (by simp [closedL, Cell.closed]) r1) he
      | nil => exact one (fr (by simp [closedL, Cell.closed]) r1) he
      | sl o n s z => cases o with
        | true => cases he
        | false =>
          refine one (fun ht => ?_) he
          cases r1 with
          | ro0 h1 hn => cases hn; exact .ro0 h1 ht
          | ro h1 h2 h3 h4 hc h5 hn => cases hn; exact .ro (fun hl => hS _ (h1 hl)) h2 h3 h4 hc ((rep_sub h5 hS).free hc) ht
      | ref id off n s =>
        simp only [giveL] at he
        split at he
        · rename_i ds hid
          split at he
          · rename_i hc
            split at he
            · rename_i l1 e1 he1
              obtain ⟨rfl, rfl⟩ := Prod.mk.inj (Option.some.inj he)
              obtain ⟨rfl, _, _⟩ := hc
              have ht := giveL_rep (U' := U') (L' := L') hS r2 he1 (fun p q hq => by rw [show i + 1 + p = i + (p + 1) by omega]; exact hu (p + 1) q hq)
              obtain ⟨hu1, hu2⟩ := hu 0 _ rfl
              rw [Nat.add_zero] at hu1 hu2
              simp only at hu2
              cases r1 with
              | ref0 hU hp hnil => cases hnil; exact .ref0 hu1 hp ht
              | @ref _ _ _ _ cap _ _ _ hU hW hn hz hnil =>
                cases hnil
                have := @Rep.ref S' U' L' w i 0 n s cap xs l1 [] hu1 (by rw [hu2]; exact hW) hn hz ht
                rw [hu2] at this; exact this
            · cases he
          · cases he
        · cases he
      | _ => cases he

theorem argsG_get : ∀ {ms : List Mode} {xs : List TV} {i : Nat} {as : List Arg} {sn : List Nat} {ow : List (Option Nat)} {es : List (Nat × List Cell)}, argsG h i ms xs = some (as, sn, ow, es) →
    as.length = xs.length ∧ ow.length = as.length ∧ (∀ e ∈ es, h e.1 = some (true, e.2) ∧ e.2.all Cell.shal = true) ∧
    (∀ (j : Nat) a x, as[j]? = some a → xs[j]? = some x → (∃ m i o, argT h m x = some (a, i, o) ∧ ow[j]? = some o ∧ ∀ y ∈ i, y ∈ sn) ∨
      ∃ b l l' d e, x = .v b l ∧ a = .val b l' ∧ giveL h (i + d) l = some (l', e) ∧ ow[j]? = some none ∧ ∀ (p : Nat) q, e[p]? = some q → es[d + p]? = some q)
  | ms, [], i, as, sn, ow, es, he => by
    cases ms with
    | nil =>
      simp only [argsG, Option.some.injEq, Prod.mk.injEq] at he
      obtain ⟨rfl, rfl, rfl, rfl⟩ := he
      exact ⟨rfl, rfl, by simp, fun j a x h1 _ => by simp at h1⟩
    | cons m ms => cases m <;> simp [argsG] at he
  | ms, x :: xs, i, as, sn, ow, es, he => by
    have old : ∀ {m : Mode} {ms' : List Mode}, (match argT h m x, argsG h i ms' xs with | some (a, i, o), some (as, j, os, es) => some (a :: as, i ++ j, o :: os, es) | _, _ => none) = some (as, sn, ow, es) →
        as.length = (x :: xs).length ∧ ow.length = as.length ∧ (∀ e ∈ es, h e.1 = some (true, e.2) ∧ e.2.all Cell.shal = true) ∧
        (∀ (j : Nat) a y, as[j]? = some a → (x :: xs)[j]? = some y → (∃ m i o, argT h m y = some (a, i, o) ∧ ow[j]? = some o ∧ ∀ z ∈ i, z ∈ sn) ∨
          ∃ b l l' d e, y = .v b l ∧ a = .val b l' ∧ giveL h (i + d) l = some (l', e) ∧ ow[j]? = some none ∧ ∀ (p : Nat) q, e[p]? = some q → es[d + p]? = some q) := by
      intro m ms' he
      split at he
      · rename_i a i1 o as' j' os es' e1 e2
        simp only [Option.some.injEq, Prod.mk.injEq] at he
        obtain ⟨rfl, rfl, rfl, rfl⟩ := he
        obtain ⟨g1, g2, g4, g3⟩ := argsG_get e2
        refine ⟨by simp [g1], by simp [g2], g4, fun j b y h1 h2 => ?_⟩
        cases j with
        | zero =>
          obtain rfl := Option.some.inj h1
          obtain rfl := Option.some.inj h2
          exact .inl ⟨m, i1, o, e1, rfl, fun z hz => by simp [hz]⟩
        | succ j =>
          rcases g3 j b y h1 h2 with ⟨m', i', o', q1, q2, q3⟩ | q
          · exact .inl ⟨m', i', o', q1, q2, fun z hz => by simp [q3 z hz]⟩
          · exact .inr q
      · cases he
    cases ms with
    | nil => exact old he
    | cons m ms =>
      by_cases hm : m = .str ∧ ∃ b l, x = .v b l
      · obtain ⟨rfl, b, l, rfl⟩ := hm
        simp only [argsG] at he
        split at he
        · rename_i l' e1 he1
          split at he
          · rename_i as' j' os es' e2
            simp only [Option.some.injEq, Prod.mk.injEq] at he
            obtain ⟨rfl, rfl, rfl, rfl⟩ := he
            obtain ⟨g1, g2, g4, g3⟩ := argsG_get e2
            refine ⟨by simp [g1], by simp [g2], fun e he => ?_, fun j a y h1 h2 => ?_⟩
            · rcases List.mem_append.1 he with he | he
              · exact giveL_get he1 e he
              · exact g4 e he
            · cases j with
              | zero =>
                obtain rfl := Option.some.inj h1
                obtain rfl := Option.some.inj h2
                exact .inr ⟨b, l, l', 0, e1, rfl, rfl, he1, rfl, fun p q hq => by
                  rw [Nat.zero_add, List.getElem?_append_left (List.getElem?_eq_some_iff.1 hq).1]; exact hq⟩
              | succ j =>
                rcases g3 j a y h1 h2 with q | ⟨b', l2, l2', d, e, q1, q2, q3, q4, q5⟩
                · exact .inl q
                · refine .inr ⟨b', l2, l2', e1.length + d, e, q1, q2, by rw [← Nat.add_assoc]; exact q3, q4, fun p q hq => ?_⟩
                  rw [List.getElem?_append_right (by omega), show e1.length + d + p - e1.length = d + p by omega]
                  exact q5 p q hq
          · cases he
        · cases he
      · have e : argsG h i (m :: ms) (x :: xs) = (match argT h m x, argsG h i ms xs with | some (a, i, o), some (as, j, os, es) => some (a :: as, i ++ j, o :: os, es) | _, _ => none) := by
          cases m with
          | str =>
            cases x with
            | v b l => exact absurd ⟨rfl, b, l, rfl⟩ hm
            | _ => rfl
          | _ => rfl
        rw [e] at he
        exact old he

theorem argsT_get {ms : List Mode} {xs : List TV} {as : List Arg} {sn : List Nat} {ow : List (Option Nat)} (he : argsT h ms xs = some (as, sn, ow)) :
    xs.length ≤ as.length ∧ (noEx as = true → xs.length = as.length) ∧ ow.length = as.length ∧
    (∀ (j : Nat) a x, as[j]? = some a → xs[j]? = some x → (∃ m i o, argT h m x = some (a, i, o) ∧ ow[j]? = some o ∧ ∀ y ∈ i, y ∈ sn) ∨
      ∃ b l l' i e, x = .v b l ∧ a = .val b l' ∧ giveL h i l = some (l', e) ∧ ow[j]? = some none ∧ ∀ (p : Nat) q, e[p]? = some q → i + p < as.length ∧ ow[i + p]? = some (some q.1)) ∧
    (∀ (j : Nat), xs.length ≤ j → j < as.length → ∃ id cs, as[j]? = some (.ex cs) ∧ ow[j]? = some (some id) ∧ h id = some (true, cs) ∧ cs.all Cell.shal = true) := by
  unfold argsT at he
  split at he
  · rename_i as0 sn0 ow0 es e
    simp only [Option.some.injEq, Prod.mk.injEq] at he
    obtain ⟨rfl, rfl, rfl⟩ := he
    obtain ⟨g1, g2, g3, g4⟩ := argsG_get e
    refine ⟨by simp [g1], fun hn => ?_, by simp [g2], fun j a x h1 h2 => ?_, fun j h1 h2 => ?_⟩
    · cases es with
      | nil => simp [g1]
      | cons q es => simp [noEx] at hn
    · have hj : j < xs.length := (List.getElem?_eq_some_iff.1 h2).1
      rw [List.getElem?_append_left (by omega)] at h1
      rcases g4 j a x h1 h2 with ⟨m, i, o, q1, q2, q3⟩ | ⟨b, l, l', d, e', q1, q2, q3, q4, q5⟩
      · exact .inl ⟨m, i, o, q1, by rw [List.getElem?_append_left (by omega)]; exact q2, q3⟩
      · refine .inr ⟨b, l, l', _, e', q1, q2, q3, by rw [List.getElem?_append_left (by omega)]; exact q4, fun p q hq => ?_⟩
        have h5 := q5 p q hq
        have h6 := (List.getElem?_eq_some_iff.1 h5).1
        refine ⟨by simp [g1]; omega, ?_⟩
        rw [List.getElem?_append_right (by omega), show xs.length + d + p - ow0.length = d + p by omega, List.getElem?_map, h5]; rfl
    · have hl : j - as0.length < es.length := by simp at h2; omega
      have he : es[j - as0.length]? = some es[j - as0.length] := List.getElem?_eq_getElem hl
      obtain ⟨q1, q2⟩ := g3 _ (List.getElem_mem hl)
      refine ⟨_, _, ?_, ?_, q1, q2⟩
      · rw [List.getElem?_append_right (by omega), List.getElem?_map, he]; rfl
      · rw [List.getElem?_append_right (by omega), List.getElem?_map, g2, he]; rfl
  · cases he

/-- What is handed on: which node, and how. -/
theorem argT_own {m : Mode} {x : TV} {a : Arg} {i : List Nat} {id : Nat} (he : argT h m x = some (a, i, some id)) :
    ∃ p n s cs, a = .own p n s cs ∧ h id = some (true, cs) ∧ cs.all Cell.shal = true ∧ (x = if p then .v false [.ptr id 0] else .v false [.ref id 0 n s]) ∧ (p = false → cs.length = n * s) := by
  unfold argT at he
  split at he
  · split at he <;> cases he
  · cases he
  · rename_i id' off
    split at he
    · rename_i cs hid
      split at he
      · rename_i hc
        simp only [Option.some.injEq, Prod.mk.injEq] at he
        obtain ⟨rfl, rfl, rfl⟩ := he
        obtain ⟨rfl, hs⟩ := hc
        exact ⟨true, 0, 0, cs, rfl, hid, hs, rfl, fun e => by cases e⟩
      · cases he
    · cases he
  · rename_i id' off n s
    split at he
    · rename_i cs hid
      split at he
      · rename_i hc
        simp only [Option.some.injEq, Prod.mk.injEq] at he
        obtain ⟨rfl, rfl, rfl⟩ := he
        obtain ⟨rfl, hl, hs⟩ := hc
        exact ⟨false, n, s, cs, rfl, hid, hs, rfl, fun _ => hl⟩
      · cases he
    · cases he
  · cases he

theorem argT_val {m : Mode} {x : TV} {a : Arg} {i : List Nat} (he : argT h m x = some (a, i, none)) : (∃ b l l' zs, a = .val b l' ∧ x = .v b l ∧ snapL h zs l = some (l', i)) ∨ ∃ s, a = .own false 0 s [] ∧ x = .v false [.nil] := by
  unfold argT at he
  split at he
  · rename_i zs b l
    split at he
    · rename_i l' j e
      simp only [Option.some.injEq, Prod.mk.injEq, and_true] at he
      obtain ⟨rfl, rfl⟩ := he
      exact .inl ⟨b, l, l', zs, rfl, rfl, e⟩
    · cases he
  · rename_i s
    simp only [Option.some.injEq, Prod.mk.injEq] at he
    obtain ⟨rfl, _, _⟩ := he
    exact .inr ⟨s, rfl, rfl⟩
  · split at he
    · split at he
      · cases he
      · cases he
    · cases he
  · split at he
    · split at he
      · cases he
      · cases he
    · cases he
  · cases he

/-- What the callee only reads stays as it is under the callee. -/
def callBase (k : Base) (h : Nat → Option Node) (w : World) (L : Nat → Nat × Nat) (F : Nat → List Nat) (sn : List Nat) (ow : List (Option Nat)) : Base :=
  ⟨w, fun b => SS k h L F w b ∨ ∃ id ∈ sn, b ∈ Own h L F id, (ow.filterMap id).flatMap (Own h L F)⟩

theorem Mem.gv_call {k : Base} {h : Nat → Option Node} {w : World} {L : Nat → Nat × Nat} {F : Nat → List Nat} {U : Nat → Prop} (m : Mem k h w L F U) {b : Nat} (hb : gBlk = some b) {sn : List Nat} {ow : List (Option Nat)} :
    (callBase k h w L F sn ow).S0 b ∧ ∃ n, (callBase k h w L F sn ow).w0.cell? ⟨b, 0, none⟩ = some (.int .i64 n) := by
  obtain ⟨hs, n, hc⟩ := m.gv b hb
  obtain ⟨h1, h2⟩ := m.S0lt b hs
  refine ⟨.inl ⟨.inl hs, Nat.lt_of_lt_of_le h1 m.grows.1, fun id hid => ?_⟩, n, ?_⟩
  · rcases m.inB id b hid with h3 | h3
    · omega
    · exact h2 h3
  · show w.cell? ⟨b, 0, none⟩ = _
    rw [← hc]
    simp only [World.cell?, m.frame b h1 h2]

def callL (L : Nat → Nat × Nat) (ow : List (Option Nat)) (j : Nat) : Nat × Nat :=
  match ow[j]? with
  | some (some id) => L id
  | _ => (0, 0)

def callF (F : Nat → List Nat) (ow : List (Option Nat)) (j : Nat) : List Nat :=
  match ow[j]? with
  | some (some id) => F id
  | _ => []

theorem snapC_rep {S' : Nat → Prop} (m : Mem k h w L F U) {x : Value} {c c' : Cell} {i : List Nat} (hS : ∀ b, SS k h L F w b → S' b) (hi : ∀ id ∈ i, ∀ b ∈ Own h L F id, S' b) (hr : Rep (SS k h L F w) U L w [x] [c] []) (he : snapC h c = some (c', i))
    (U' : Nat → Prop) (L' : Nat → Nat × Nat) : Rep S' U' L' w [x] [c'] [] := by
  unfold snapC at he
  split at he
  · obtain ⟨rfl, rfl⟩ := Prod.mk.inj (Option.some.inj he); exact (rep_sub hr hS).free (by simp [closedL, Cell.closed])
  · obtain ⟨rfl, rfl⟩ := Prod.mk.inj (Option.some.inj he); exact (rep_sub hr hS).free (by simp [closedL, Cell.closed])
  · obtain ⟨rfl, rfl⟩ := Prod.mk.inj (Option.some.inj he)
    cases hr with
    | ro0 h1 hn => cases hn; exact .ro0 h1 .nil
    | ro h1 h2 h3 h4 hc h5 hn => cases hn; exact .ro (fun hl => hS _ (h1 hl)) h2 h3 h4 hc ((rep_sub h5 hS).free hc) .nil
  · obtain ⟨rfl, rfl⟩ := Prod.mk.inj (Option.some.inj he)
    rename_i s; exact own0_only hr (Q := fun x => Rep S' U' L' w [x] [.sl false 0 s []] []) (fun p hp => ro_zero hp .nil)
  · rename_i id off n s
    split at he
    · rename_i o cs hid
      split at he
      · rename_i hc
        obtain ⟨rfl, rfl⟩ := Prod.mk.inj (Option.some.inj he)
        obtain ⟨hc1, hc2⟩ := hc
        obtain ⟨_, us, g1, g2, g3, g4⟩ := m.node id _ hid
        simp only at g2 g4
        have hl := g2.length
        have ecs : cs = cs.take off ++ (cs.drop off).take (n * s) ++ cs.drop (off + n * s) := by
          rw [List.append_assoc, ← List.drop_drop, List.take_append_drop, List.take_append_drop]
        rw [ecs] at g2
        obtain ⟨uAB, uC, FAB, FC, rfl, eF, rAB, rC⟩ := g2.split
        obtain ⟨uA, uB, FA, FB, rfl, rfl, rA, rB⟩ := rAB.split
        have lA := rA.length; have lB := rB.length
        have hA : (cs.take off).length = off := by simp; omega
        have hB : ((cs.drop off).take (n * s)).length = n * s := by simp; omega
        have hcl := rB.closed hc2
        have hF : ∀ b ∈ FB, S' b := by
          intro b hb
          cases o with
          | true =>
            have hne : cs ≠ [] := fun e => by
              have : (cs.drop off).take (n * s) = [] := by rw [e]; simp
              rw [this] at rB
              rw [(rep_nil rB).2] at hb; cases hb
            exact hi id (by simp) b (by rw [own_ne hid hne, eF]; simp [hb])
          | false =>
            obtain ⟨g5, _⟩ := g4 rfl
            rw [g5] at eF
            have : FB = [] := (List.append_eq_nil_iff.1 (List.append_eq_nil_iff.1 eF.symm).1).2
            subst this; cases hb
        have hLid : cs ≠ [] → S' (L id).1 := fun hne => by
          cases o with
          | true => exact hi id (by simp) _ (by rw [own_ne hid hne]; simp)
          | false => exact hS _ ((g4 rfl).2 hne)
        have hr2 := rangeAt_right (rangeAt_left g1)
        rw [show uA.length = off by omega] at hr2
        cases hr with
        | ref0 hU hp hnil =>
          cases hnil
          simpa [roifyL] using @ro_zero S' U' L' w _ s [] [] [] hp .nil
        | ref hU hW hn hz hnil =>
          cases hnil
          exact .ro (us := uB) (fun hne => hLid (fun e => hne (by rw [e]; simp [roifyL]))) (by rw [roifyL_length, hB]) hn hr2 (by rw [closedL_roify]; exact hcl) ((rB.roify hS hF).free (by rw [closedL_roify]; exact hcl)) .nil
      · cases he
    · cases he
  · cases he

theorem snapL_rep {S' : Nat → Prop} (m : Mem k h w L F U) (hS : ∀ b, SS k h L F w b → S' b) (U' : Nat → Prop) (L' : Nat → Nat × Nat) : ∀ {zs : List Nat} {cs cs' : List Cell} {xs : List Value} {i : List Nat}, (∀ id ∈ i, ∀ b ∈ Own h L F id, S' b) →
    Rep (SS k h L F w) U L w xs cs [] → snapL h zs cs = some (cs', i) → Rep S' U' L' w xs cs' []
  | zs, [], cs', xs, i, _, hr, he => by
    have he : some (([] : List Cell), ([] : List Nat)) = some (cs', i) := by cases zs <;> exact he
    obtain ⟨rfl, rfl⟩ := Prod.mk.inj (Option.some.inj he)
    have := hr.length
    obtain rfl : xs = [] := by simpa using this
    exact .nil
  | zs, c :: cs, cs', xs, i, hi, hr, he => by
    match xs, hr with
    | [], hr => have := hr.length; simp at this
    | x :: xs, hr =>
      obtain ⟨G1, G2, e, r1, r2⟩ := rep_cons hr
      obtain ⟨rfl, rfl⟩ := List.append_eq_nil_iff.1 e.symm
      unfold snapL at he
      split at he
      · rename_i e3; cases e3
      · rename_i s zs' cs0 e3
        obtain ⟨rfl, rfl⟩ := List.cons.inj e3
        split at he
        · rename_i cs'' j e2
          obtain ⟨rfl, rfl⟩ := Prod.mk.inj (Option.some.inj he)
          obtain rfl := rep_nilc r1
          exact .ro0 (fun _ => rfl) (snapL_rep m hS U' L' hi r2 e2)
        · cases he
      · rename_i c0 cs0 _ e3
        obtain ⟨rfl, rfl⟩ := List.cons.inj e3
        split at he
        · rename_i c' i1 cs'' i2 e1 e2
          obtain ⟨rfl, rfl⟩ := Prod.mk.inj (Option.some.inj he)
          have h1 := snapC_rep m hS (fun id hid => hi id (by simp [hid])) r1 e1 U' L'
          have h2 := snapL_rep m hS U' L' (fun id hid => hi id (by simp [hid])) r2 e2
          exact h1.append h2
        · cases he

theorem argTVs_get : ∀ (as : List Arg) (j0 j : Nat), (argTVs j0 as)[j]? = (as[j]?).map fun a => a.tv (j0 + j)
  | [], _, _ => by simp [argTVs]
  | a :: as, j0, 0 => by simp [argTVs]
  | a :: as, j0, j + 1 => by
    simp only [argTVs, List.getElem?_cons_succ]
    rw [argTVs_get as (j0 + 1) j, show j0 + 1 + j = j0 + (j + 1) by omega]

theorem node_get (as : List Arg) (j : Nat) : ndOf (as.map Arg.node) j = (as[j]?).bind Arg.node := by
  unfold ndOf
  rw [List.getElem?_map]
  cases as[j]? <;> rfl

/-- The callee's start. -/
theorem call_start (m : Mem k h w L F U) {ms : List Mode} {tvs : List TV} {xs : List Value} {as : List Arg} {sn : List Nat} {ow : List (Option Nat)} (he : argsT h ms tvs = some (as, sn, ow)) (hnd : (ow.filterMap id).Nodup) (hdis : ∀ x ∈ sn, some x ∉ ow)
    (hl : xs.length = tvs.length) (hx : ∀ (j : Nat) x t, xs[j]? = some x → tvs[j]? = some t → RTV (SS k h L F w) U L w x t) :
    Mem (callBase k h w L F sn ow) (ndOf (as.map Arg.node)) w (callL L ow) (callF F ow) (· < as.length) ∧
    ∀ i, RTV (SS (callBase k h w L F sn ow) (ndOf (as.map Arg.node)) (callL L ow) (callF F ow) w) (· < as.length) (callL L ow) w (xs.toArray.getD i undef) ((argTVs 0 as).getD i .undef) := by
  obtain ⟨l1, _, l2, get, ext⟩ := argsT_get he
  -- each node of the callee's is one of the caller's
  have node : ∀ j nd, ndOf (as.map Arg.node) j = some nd → (∃ id cs, ow[j]? = some (some id) ∧ nd = (true, cs) ∧ h id = some (true, cs) ∧ cs.all Cell.shal = true) ∨ (nd = (true, []) ∧ j < as.length ∧ ow[j]? = some none) := by
    intro j nd hj
    rw [node_get] at hj
    cases ha : as[j]? with
    | none => rw [ha] at hj; cases hj
    | some a =>
      rw [ha] at hj
      have hja := (List.getElem?_eq_some_iff.1 ha).1
      by_cases hjl : j < tvs.length
      · rcases get j a tvs[j] ha (List.getElem?_eq_getElem hjl) with ⟨m', i, o, q1, q2, q3⟩ | ⟨b, l, l', _, _, _, rfl, _⟩
        · cases o with
          | none =>
            rcases argT_val q1 with ⟨b, l, l', zs, rfl, _, _⟩ | ⟨s, rfl, _⟩
            · cases hj
            · exact .inr ⟨(Option.some.inj hj).symm, hja, q2⟩
          | some id =>
            obtain ⟨p, n, s, cs, rfl, e1, e2, _, _⟩ := argT_own q1
            exact .inl ⟨id, cs, q2, (Option.some.inj hj).symm, e1, e2⟩
        · cases hj
      · obtain ⟨id, cs, q1, q2, q3, q4⟩ := ext j (by omega) hja
        rw [ha] at q1
        obtain rfl := Option.some.inj q1
        exact .inl ⟨id, cs, q2, (Option.some.inj hj).symm, q3, q4⟩
  have own : ∀ j, Own (ndOf (as.map Arg.node)) (callL L ow) (callF F ow) j = [] ∨ ∃ id, ow[j]? = some (some id) ∧ Own (ndOf (as.map Arg.node)) (callL L ow) (callF F ow) j = Own h L F id := by
    intro j
    cases hj : ndOf (as.map Arg.node) j with
    | none => left; simp [Own, hj]
    | some nd =>
      rcases node j nd hj with ⟨id, cs, e1, rfl, e2, _⟩ | ⟨rfl, _⟩
      · refine .inr ⟨id, e1, ?_⟩
        rw [own_of hj, own_of e2]
        simp [callL, callF, e1]
      · left; rw [own_of hj]; rfl
  have memow : ∀ {j : Nat} {id : Nat}, ow[j]? = some (some id) → id ∈ ow.filterMap (fun x => x) := fun {j id} hj => List.mem_filterMap.2 ⟨some id, List.mem_of_getElem? hj, rfl⟩
  have uniq : ∀ (o : List (Option Nat)) (i j : Nat) (id : Nat), (o.filterMap (fun x => x)).Nodup → o[i]? = some (some id) → o[j]? = some (some id) → i = j := by
    intro o
    induction o with
    | nil => intro i j id _ h1; simp at h1
    | cons a o ih =>
      intro i j id hn h1 h2
      have hn' : (o.filterMap (fun x => x)).Nodup := by
        cases a with
        | none => simpa using hn
        | some a => simp only [List.filterMap_cons] at hn; exact (List.nodup_cons.1 hn).2
      cases i with
      | zero =>
        cases j with
        | zero => rfl
        | succ j =>
          obtain rfl := Option.some.inj h1
          simp only [List.filterMap_cons] at hn
          have h2' : o[j]? = some (some id) := h2
          exact absurd (show id ∈ o.filterMap (fun x => x) from List.mem_filterMap.2 ⟨some id, List.mem_of_getElem? h2', rfl⟩) (List.nodup_cons.1 hn).1
      | succ i =>
        cases j with
        | zero =>
          obtain rfl := Option.some.inj h2
          simp only [List.filterMap_cons] at hn
          have h1' : o[i]? = some (some id) := h1
          exact absurd (show id ∈ o.filterMap (fun x => x) from List.mem_filterMap.2 ⟨some id, List.mem_of_getElem? h1', rfl⟩) (List.nodup_cons.1 hn).1
        | succ j => rw [ih i j id hn' h1 h2]
  have inB0 : ∀ {b}, b ∈ (callBase k h w L F sn ow).B0 → ∃ id, some id ∈ ow ∧ b ∈ Own h L F id := by
    intro b hb
    obtain ⟨id, h1, h2⟩ := List.mem_flatMap.1 hb
    obtain ⟨o, h3, h4⟩ := List.mem_filterMap.1 h1
    exact ⟨id, by rw [← h4]; exact h3, h2⟩
  have hSS : ∀ b, SS k h L F w b → SS (callBase k h w L F sn ow) (ndOf (as.map Arg.node)) (callL L ow) (callF F ow) w b := fun b hb =>
    ⟨.inl (.inl hb), hb.2.1, fun j hj => by
      rcases own j with e | ⟨id, _, e⟩
      · rw [e] at hj; cases hj
      · rw [e] at hj; exact hb.2.2 id hj⟩
  have hsn : ∀ id ∈ sn, ∀ b ∈ Own h L F id, SS (callBase k h w L F sn ow) (ndOf (as.map Arg.node)) (callL L ow) (callF F ow) w b := fun id hid b hb =>
    ⟨.inl (.inr ⟨id, hid, hb⟩), Own.lt m hb, fun j hj => by
      rcases own j with e | ⟨id', e1, e⟩
      · rw [e] at hj; cases hj
      · rw [e] at hj
        by_cases e2 : id = id'
        · subst e2; exact hdis id hid (List.mem_of_getElem? e1)
        · exact m.disj id id' e2 b hb hj⟩
  refine ⟨⟨fun b hb => ?_, fun b hb => ?_, fun j nd hj => ?_, fun j => ?_, fun i j hij b hb hc => ?_, fun j b hb => ?_, fun _ _ _ => rfl, rfl, rfl, rfl, Grows.refl _, fun b hb => m.gv_call hb⟩, fun j => ?_⟩
  · rcases hb with hb | ⟨id, hid, hb⟩
    · exact ⟨hb.2.1, fun hc => by obtain ⟨id, _, hi⟩ := inB0 hc; exact hb.2.2 id hi⟩
    · refine ⟨Own.lt m hb, fun hc => ?_⟩
      obtain ⟨id', h1, h2⟩ := inB0 hc
      by_cases e2 : id = id'
      · subst e2; exact hdis id hid h1
      · exact m.disj id id' e2 b hb h2
  · obtain ⟨id, _, h2⟩ := inB0 hb; exact Own.lt m h2
  · rcases node j nd hj with ⟨id, cs, e1, rfl, e2, e3⟩ | ⟨rfl, hj', e1⟩
    rotate_left
    · have : callF F ow j = [] := by simp [callF, e1]
      rw [this]
      exact ⟨hj', [], rangeAt_nil _ _ _, .nil, fun q => absurd rfl q, fun e => by cases e⟩
    obtain ⟨_, us, g1, g2, g3, _⟩ := m.node id _ e2
    simp only at g2
    have hj' : j < as.length := by
      rw [← l2]; exact (List.getElem?_eq_some_iff.1 e1).1
    refine ⟨hj', us, by simpa [callL, e1] using g1, ?_, by simpa [callL, e1] using g3, fun e => by cases e⟩
    have : callF F ow j = F id := by simp [callF, e1]
    rw [this]
    exact (rep_sub g2 hSS).free (g2.closed e3)
  · rcases own j with e | ⟨id, _, e⟩
    · rw [e]; simp
    · rw [e]; exact m.nodup id
  · rcases own i with e | ⟨id, e1, e⟩
    · rw [e] at hb; cases hb
    · rcases own j with e' | ⟨id', e2, e'⟩
      · rw [e'] at hc; cases hc
      · rw [e] at hb; rw [e'] at hc
        by_cases e3 : id = id'
        · subst e3; exact hij (uniq ow i j id hnd e1 e2)
        · exact m.disj id id' e3 b hb hc
  · rcases own j with e | ⟨id, e1, e⟩
    · rw [e] at hb; cases hb
    · rw [e] at hb
      exact .inr (List.mem_flatMap.2 ⟨id, memow e1, hb⟩)
  · have hg : (argTVs 0 as).getD j .undef = (((as[j]?).map fun a => a.tv j)).getD .undef := by
      rw [List.getD_eq_getElem?_getD, argTVs_get]; simp
    rw [hg]
    cases ha : as[j]? with
    | none => trivial
    | some a =>
      have hja : j < as.length := (List.getElem?_eq_some_iff.1 ha).1
      by_cases hjl : j < tvs.length
      rotate_left
      · obtain ⟨id, cs, q1, _⟩ := ext j (by omega) hja
        rw [ha] at q1
        obtain rfl := Option.some.inj q1
        trivial
      have hjx : j < xs.length := by omega
      have hget := get j a tvs[j] ha (List.getElem?_eq_getElem hjl)
      have hr := hx j xs[j] tvs[j] (List.getElem?_eq_getElem hjx) (List.getElem?_eq_getElem hjl)
      have hxv : xs.toArray.getD j undef = xs[j] := by simp [Array.getD_eq_getD_getElem?, hjx]
      rw [hxv]
      simp only [Option.map_some, Option.getD_some]
      rcases hget with ⟨m', i, o, q1, q2, q3⟩ | ⟨b, l, l', i, e, e1, rfl, q1, q2, q3⟩
      rotate_left
      · rw [e1] at hr
        have hu : ∀ (p : Nat) q, e[p]? = some q → (i + p < as.length) ∧ callL L ow (i + p) = L q.1 := fun p q hq => by
          obtain ⟨z1, z2⟩ := q3 p q hq
          exact ⟨z1, by simp [callL, z2]⟩
        cases b with
        | false => exact giveL_rep hSS hr q1 hu
        | true =>
          obtain ⟨vs, e3, hr⟩ := hr
          exact ⟨vs, e3, giveL_rep hSS hr q1 hu⟩
      cases o with
      | none =>
        rcases argT_val q1 with ⟨b, l, l', zs, rfl, e1, e2⟩ | ⟨s, rfl, e1⟩
        rotate_left
        · rw [e1] at hr
          show Rep _ _ _ _ _ _ _
          generalize xs[j] = x at hr
          obtain rfl := rep_nilc hr
          exact .ref0 hja (.inl rfl) .nil
        rw [e1] at hr
        cases b with
        | false => exact snapL_rep m hSS _ _ (fun id hid => hsn id (q3 id hid)) hr e2
        | true =>
          obtain ⟨vs, e3, hr⟩ := hr
          exact ⟨vs, e3, snapL_rep m hSS _ _ (fun id hid => hsn id (q3 id hid)) hr e2⟩
      | some id =>
        obtain ⟨p, n, s, cs, rfl, e1, e2, e3, e4⟩ := argT_own q1
        have eL : callL L ow j = L id := by simp [callL, q2]
        rw [e3] at hr
        cases p with
        | true =>
          simp only [if_true] at hr
          show Rep _ _ _ _ _ _ _
          generalize xs[j] = x at hr
          cases hr with
          | ptr hU hnil =>
            have := @Rep.ptr (SS (callBase k h w L F sn ow) (ndOf (as.map Arg.node)) (callL L ow) (callF F ow) w) (· < as.length) (callL L ow) w j 0 [] [] [] hja .nil
            rw [eL] at this; exact this
        | false =>
          simp only [Bool.false_eq_true, if_false] at hr
          show Rep _ _ _ _ _ _ _
          generalize xs[j] = x at hr
          cases hr with
          | ref0 hU hp hnil => exact .ref0 hja hp .nil
          | @ref _ _ _ _ cap _ _ _ hU hW hn hz hnil =>
            have := @Rep.ref (SS (callBase k h w L F sn ow) (ndOf (as.map Arg.node)) (callL L ow) (callF F ow) w) (· < as.length) (callL L ow) w j 0 n s cap [] [] [] hja (by rw [eL]; exact hW) hn hz .nil
            rw [eL] at this; exact this
end
end

section
open Go Go.RowKit

abbrev Locs := List ((Nat × Nat) × List Nat × List Nat)
def Locs.blocks (l : Locs) : List Nat := l.flatMap fun p => p.2.2

/-- What the nodes of results have. -/
def LocsOK (S : Nat → Prop) (w : World) (locs : Locs) (cs : List (List Cell)) : Prop :=
  locs.length = cs.length ∧ ∀ (i : Nat) p c, locs[i]? = some p → cs[i]? = some c → ∃ vs, w.rangeAt p.1.1 p.1.2 vs ∧ Rep S noU noL w vs c p.2.1 ∧ (c ≠ [] → Wr w p.1.1 (p.1.2 + vs.length)) ∧ closedL c = true ∧ p.2.2 = OB p.1.1 p.2.1 c

def LocsAt (nid : Nat) (locs : Locs) (U' : Nat → Prop) (L' : Nat → Nat × Nat) : Prop := ∀ (i : Nat) p, locs[i]? = some p → U' (nid + i) ∧ L' (nid + i) = p.1

theorem LocsAt.tail {nid : Nat} {p : (Nat × Nat) × List Nat × List Nat} {locs : Locs} {U' L'} (h : LocsAt nid (p :: locs) U' L') : LocsAt (nid + 1) locs U' L' := fun i q hq => by
  have := h (i + 1) q hq
  rwa [show nid + (i + 1) = nid + 1 + i by omega] at this

theorem LocsAt.left {nid : Nat} {l1 l2 : Locs} {U' L'} (h : LocsAt nid (l1 ++ l2) U' L') : LocsAt nid l1 U' L' := fun i q hq => h i q (by rw [List.getElem?_append_left (List.getElem?_eq_some_iff.1 hq).1]; exact hq)
theorem LocsAt.right {nid : Nat} {l1 l2 : Locs} {U' L'} (h : LocsAt nid (l1 ++ l2) U' L') : LocsAt (nid + l1.length) l2 U' L' := fun i q hq => by
  have := h (l1.length + i) q (by rw [List.getElem?_append_right (by omega)]; simpa using hq)
  rwa [← Nat.add_assoc] at this

theorem LocsOK.append {S : Nat → Prop} {w : World} {l1 l2 : Locs} {c1 c2 : List (List Cell)} (h1 : LocsOK S w l1 c1) (h2 : LocsOK S w l2 c2) : LocsOK S w (l1 ++ l2) (c1 ++ c2) := by
  refine ⟨by simp [h1.1, h2.1], fun i p c hp hc => ?_⟩
  by_cases hi : i < l1.length
  · rw [List.getElem?_append_left hi] at hp
    rw [List.getElem?_append_left (by rw [← h1.1]; exact hi)] at hc
    exact h1.2 i p c hp hc
  · rw [List.getElem?_append_right (by omega)] at hp
    rw [List.getElem?_append_right (by rw [← h1.1]; omega), ← h1.1] at hc
    exact h2.2 _ p c hp hc

theorem rep_pure {S U L w} {vs : List Value} {cs : List Cell} {G : List Nat} (hr : Rep S U L w vs cs G) (hp : pureL cs = true) (S' : Nat → Prop) : Rep S' U L w vs cs G := by
  induction hr with
  | nil => exact .nil
  | prim h1 _ ih => exact .prim h1 (ih (by simp [pureL] at hp; exact hp.2))
  | nils _ ih => exact .nils (ih (by simp [pureL] at hp; exact hp.2))
  | @ro b o n cap s l us vs cs F h1 h2 h3 h4 hc h5 _ ih1 ih =>
    simp [pureL, Cell.pure] at hp
    obtain ⟨hp1, hp2⟩ := hp
    subst hp1
    exact .ro (fun e => absurd rfl e) h2 h3 h4 hc (ih1 rfl) (ih hp2)
  | own h1 h2 h3 h4 hc hz _ _ ih1 ih => simp [pureL, Cell.pure] at hp; exact .own h1 h2 h3 h4 hc hz (ih1 hp.1) (ih hp.2)
  | ref h1 h2 h3 hz _ ih => exact .ref h1 h2 h3 hz (ih (by simp [pureL] at hp; exact hp.2))
  | ro0 h1 _ ih => exact .ro0 h1 (ih (by simp [pureL] at hp; exact hp.2))
  | own0 h1 _ ih => exact .own0 h1 (ih (by simp [pureL] at hp; exact hp.2))
  | ref0 h1 h2 _ ih => exact .ref0 h1 h2 (ih (by simp [pureL] at hp; exact hp.2))
  | ptr h1 _ ih => exact .ptr h1 (ih (by simp [pureL] at hp; exact hp.2))
  | rop h1 h4 hc h5 _ _ ih => simp [pureL, Cell.pure] at hp
  | ownp h1 h4 hc hz _ _ ih1 ih => simp [pureL, Cell.pure] at hp; exact .ownp h1 h4 hc hz (ih1 hp.1) (ih hp.2)
  | dead h1 _ ih => exact .dead h1 (ih (by simp [pureL] at hp; exact hp.2))

theorem pure_tail {S S' : Nat → Prop} {c : Cell} {cs : List Cell} (h : (∀ b, S b → S' b) ∨ pureL (c :: cs) = true) : (∀ b, S b → S' b) ∨ pureL cs = true :=
  h.imp id fun q => by simp only [pureL, Bool.and_eq_true] at q; exact q.2

theorem placeL_rep {S : Nat → Prop} {w : World} {us : List Value} {cs : List Cell} {G : List Nat} (hr : Rep S noU noL w us cs G) : ∀ nid, ∃ locs : Locs, G = locs.blocks ∧ LocsOK S w locs (ownsL cs) ∧
    ∀ S' U' L', ((∀ b, S b → S' b) ∨ pureL cs = true) → LocsAt nid locs U' L' → Rep S' U' L' w us (placeL nid cs) [] := by
  induction hr with
  | nil => intro nid; exact ⟨[], rfl, ⟨rfl, fun i p c h => by simp at h⟩, fun _ _ _ _ _ => .nil⟩
  | prim h1 _ ih => intro nid; obtain ⟨locs, e1, e2, e3⟩ := ih nid; exact ⟨locs, e1, e2, fun S' U' L' hp h => .prim h1 (e3 S' U' L' (pure_tail hp) h)⟩
  | nils _ ih => intro nid; obtain ⟨locs, e1, e2, e3⟩ := ih nid; exact ⟨locs, e1, e2, fun S' U' L' hp h => .nils (e3 S' U' L' (pure_tail hp) h)⟩
  | @ro b o n cap s l us vs cs F h1 h2 h3 h4 hc h5 _ _ ih =>
    intro nid; obtain ⟨locs, e1, e2, e3⟩ := ih nid
    refine ⟨locs, e1, e2, fun S' U' L' hp h => ?_⟩
    rcases hp with hp | hp
    · exact .ro (fun hl => hp _ (h1 hl)) h2 h3 h4 hc ((rep_sub h5 hp).free hc) (e3 S' U' L' (.inl hp) h)
    · simp [pureL, Cell.pure] at hp
      obtain ⟨hp1, hp2⟩ := hp
      subst hp1
      exact .ro (fun e => absurd rfl e) h2 h3 h4 hc ((rep_pure h5 rfl S').free hc) (e3 S' U' L' (.inr hp2) h)
  | @own b o n cap s l us' F1 vs cs' F' h1 h2 h3 h4 hc hz h5 _ _ ih =>
    intro nid
    obtain ⟨locs, e1, e2, e3⟩ := ih (nid + 1)
    refine ⟨((b, o), F1, b :: F1) :: locs, by simp [Locs.blocks, e1], ⟨by simp [ownsL, e2.1], fun i p c hp hc' => ?_⟩, fun S' U' L' hpp h => ?_⟩
    · cases i with
      | zero =>
        obtain rfl := Option.some.inj hp
        obtain rfl := Option.some.inj hc'
        have := h5.length
        have := Nat.mul_le_mul_right s h3
        exact ⟨us', h4, h5, fun _ => h1.mono (by simp only; omega), hc, (OB_ne hz).symm⟩
      | succ i => exact e2.2 i p c hp hc'
    · obtain ⟨g1, g2⟩ := h 0 _ rfl
      have hrest := e3 S' U' L' (pure_tail hpp) h.tail
      simp only [Nat.add_zero] at g1 g2
      have hn0 : n ≠ 0 := fun e => hz (by subst e; simpa using h2)
      have := @Rep.ref S' U' L' w nid 0 n s cap vs (placeL (nid + 1) cs') [] g1 (by rw [g2]; simpa using h1) h3 hn0 hrest
      rw [g2] at this
      simpa [placeL] using this
  | @own0 pp s vs cs' F' h1 _ ih =>
    intro nid
    obtain ⟨locs, e1, e2, e3⟩ := ih (nid + 1)
    refine ⟨((0, 0), [], []) :: locs, by simp [Locs.blocks, e1], ⟨by simp [ownsL, e2.1], fun i p c hp hc' => ?_⟩, fun S' U' L' hpp h => ?_⟩
    · cases i with
      | zero =>
        obtain rfl := Option.some.inj hp
        obtain rfl := Option.some.inj hc'
        exact ⟨[], rangeAt_nil _ _ _, .nil, fun q => absurd rfl q, rfl, rfl⟩
      | succ i => exact e2.2 i p c hp hc'
    · obtain ⟨g1, _⟩ := h 0 _ rfl
      have hrest := e3 S' U' L' (pure_tail hpp) h.tail
      simp only [Nat.add_zero] at g1
      exact .ref0 g1 h1 hrest
  | ro0 h1 _ ih => intro nid; obtain ⟨locs, e1, e2, e3⟩ := ih nid; exact ⟨locs, e1, e2, fun S' U' L' hp h => .ro0 h1 (e3 S' U' L' (pure_tail hp) h)⟩
  | ref0 h1 _ _ _ => exact h1.elim
  | ref h1 _ _ _ _ _ => exact h1.elim
  | ptr h1 _ _ => exact h1.elim
  | rop h1 h4 hc h5 _ _ ih =>
    intro nid; obtain ⟨locs, e1, e2, e3⟩ := ih nid
    refine ⟨locs, e1, e2, fun S' U' L' hp h => ?_⟩
    rcases hp with hp | hp
    · exact .rop (fun e => hp _ (h1 e)) h4 hc ((rep_sub h5 hp).free hc) (e3 S' U' L' (.inl hp) h)
    · simp [pureL, Cell.pure] at hp
  | @ownp b o l us' F1 vs cs' F' h1 h4 hc hz h5 _ _ ih =>
    intro nid
    obtain ⟨locs, e1, e2, e3⟩ := ih (nid + 1)
    refine ⟨((b, o), F1, b :: F1) :: locs, by simp [Locs.blocks, e1], ⟨by simp [ownsL, e2.1], fun i p c hp hc' => ?_⟩, fun S' U' L' hpp h => ?_⟩
    · cases i with
      | zero =>
        obtain rfl := Option.some.inj hp
        obtain rfl := Option.some.inj hc'
        have := h5.length
        exact ⟨us', h4, h5, fun _ => h1.mono (by simp only; omega), hc, (OB_ne hz).symm⟩
      | succ i => exact e2.2 i p c hp hc'
    · obtain ⟨g1, g2⟩ := h 0 _ rfl
      have hrest := e3 S' U' L' (pure_tail hpp) h.tail
      simp only [Nat.add_zero] at g1 g2
      have := @Rep.ptr S' U' L' w nid 0 vs (placeL (nid + 1) cs') [] g1 hrest
      rw [g2] at this
      simpa [placeL] using this
  | dead h1 _ ih => intro nid; obtain ⟨locs, e1, e2, e3⟩ := ih nid; exact ⟨locs, e1, e2, fun S' U' L' hp h => .dead h1 (e3 S' U' L' (pure_tail hp) h)⟩

theorem placeV_rep {S : Nat → Prop} {w : World} : ∀ {xs : List Value} {vals : List (Bool × List Cell)} {G : List Nat}, RVs S w xs vals G → ∀ nid, ∃ locs : Locs, G = locs.blocks ∧ LocsOK S w locs (ownsV vals) ∧
    ∀ S' U' L', ((∀ b, S b → S' b) ∨ vals.all (fun p => pureL p.2) = true) → LocsAt nid locs U' L' → xs.length = (placeV nid vals).length ∧ ∀ (i : Nat) x v, xs[i]? = some x → (placeV nid vals)[i]? = some v → RV S' U' L' w x v
  | [], [], G, h, nid => ⟨[], h, ⟨rfl, fun i p c h => by simp at h⟩, fun _ _ _ _ _ => ⟨rfl, fun i x v h => by simp at h⟩⟩
  | [], _ :: _, _, h, _ => h.elim
  | _ :: _, [], _, h, _ => h.elim
  | x :: xs, (b, l) :: vs, G, h, nid => by
    obtain ⟨G1, G2, rfl, h1, h2⟩ := h
    have hx : ∃ us, (b = false → us = [x]) ∧ (b = true → ∃ ws : Array Value, x = .agg ws ∧ us = ws.toList) ∧ Rep S noU noL w us l G1 := by
      cases b with
      | false => exact ⟨[x], fun _ => rfl, (fun e => by cases e), h1⟩
      | true => obtain ⟨ws, e, h1⟩ := h1; exact ⟨ws.toList, (fun e => by cases e), fun _ => ⟨ws, e, rfl⟩, h1⟩
    obtain ⟨us, hu1, hu2, hu⟩ := hx
    obtain ⟨l1, e1, e2, e3⟩ := placeL_rep hu nid
    obtain ⟨l2, f1, f2, f3⟩ := placeV_rep h2 (nid + l1.length)
    refine ⟨l1 ++ l2, by simp [Locs.blocks, e1, f1], e2.append f2, fun S' U' L' hp hat => ?_⟩
    have hp1 : (∀ b, S b → S' b) ∨ pureL l = true := hp.imp id fun q => by simp only [List.all_cons, Bool.and_eq_true] at q; exact q.1
    have hp2 : (∀ b, S b → S' b) ∨ vs.all (fun p => pureL p.2) = true := hp.imp id fun q => by simp only [List.all_cons, Bool.and_eq_true] at q; exact q.2
    have g1 := e3 S' U' L' hp1 hat.left
    obtain ⟨g2, g3⟩ := f3 S' U' L' hp2 hat.right
    rw [e2.1] at g2 g3
    refine ⟨by simp [placeV, g2], fun i y v hy hv => ?_⟩
    cases i with
    | zero =>
      obtain rfl := Option.some.inj hy
      obtain rfl := Option.some.inj hv
      cases b with
      | false => rw [hu1 rfl] at g1; exact g1
      | true => obtain ⟨ws, e, e'⟩ := hu2 rfl; rw [e'] at g1; exact ⟨ws, e, g1⟩
    | succ i => exact g3 i y v hy hv

theorem backU_other : ∀ {ow : List (Option Nat)} {outs : List (Option (List Cell))} {h : Nat → Option Node} {x : Nat}, some x ∉ ow → ups h (backU ow outs) x = h x
  | [], _, _, _, _ => by simp [backU, ups]
  | some id :: os, [], h, x, hx => by
    have : x ≠ id := fun e => hx (by simp [e])
    show ups (upd h id none) (backU os []) x = h x
    rw [backU_other (fun hc => hx (by simp [hc])), upd_other _ _ this]
  | some id :: os, o :: outs, h, x, hx => by
    have : x ≠ id := fun e => hx (by simp [e])
    show ups (upd h id _) (backU os outs) x = h x
    rw [backU_other (fun hc => hx (by simp [hc])), upd_other _ _ this]
  | none :: os, [], h, x, hx => by
    show ups h (backU os []) x = h x
    exact backU_other (fun hc => hx (by simp [hc]))
  | none :: os, o :: outs, h, x, hx => by
    show ups h (backU os outs) x = h x
    exact backU_other (fun hc => hx (by simp [hc]))

theorem not_mem_of_nodup {id : Nat} {os : List (Option Nat)} (h : ((some id :: os).filterMap (fun x => x)).Nodup) : some id ∉ os := by
  intro hc
  simp only [List.filterMap_cons] at h
  exact (List.nodup_cons.1 h).1 (List.mem_filterMap.2 ⟨some id, hc, rfl⟩)

theorem nodup_tail {o : Option Nat} {os : List (Option Nat)} (h : ((o :: os).filterMap (fun x => x)).Nodup) : (os.filterMap (fun x => x)).Nodup := by
  cases o with
  | none => simpa using h
  | some a => simp only [List.filterMap_cons] at h; exact (List.nodup_cons.1 h).2

theorem backU_at : ∀ {ow : List (Option Nat)} {outs : List (Option (List Cell))} {h : Nat → Option Node} {x j : Nat}, (ow.filterMap (fun x => x)).Nodup → ow[j]? = some (some x) → ups h (backU ow outs) x = (outs[j]?).join.map fun c => (true, c)
  | [], _, _, _, _, _, h => by simp at h
  | o :: os, [], h, x, 0, hn, hj => by
    obtain rfl := Option.some.inj hj
    show ups (upd h x none) (backU os []) x = _
    rw [backU_other (not_mem_of_nodup hn), upd_same]; rfl
  | o :: os, out :: outs, h, x, 0, hn, hj => by
    obtain rfl := Option.some.inj hj
    show ups (upd h x _) (backU os outs) x = _
    rw [backU_other (not_mem_of_nodup hn), upd_same]; rfl
  | some id :: os, [], h, x, j + 1, hn, hj => by
    show ups (upd h id none) (backU os []) x = _
    rw [backU_at (nodup_tail hn) (show os[j]? = some (some x) from hj)]; simp
  | none :: os, [], h, x, j + 1, hn, hj => by
    show ups h (backU os []) x = _
    rw [backU_at (nodup_tail hn) (show os[j]? = some (some x) from hj)]; simp
  | some id :: os, out :: outs, h, x, j + 1, hn, hj => by
    show ups (upd h id _) (backU os outs) x = _
    rw [backU_at (nodup_tail hn) (show os[j]? = some (some x) from hj)]; simp
  | none :: os, out :: outs, h, x, j + 1, hn, hj => by
    show ups h (backU os outs) x = _
    rw [backU_at (nodup_tail hn) (show os[j]? = some (some x) from hj)]; simp

theorem newU_other : ∀ {cs : List (List Cell)} {nid : Nat} {h : Nat → Option Node} {x : Nat}, (x < nid ∨ nid + cs.length ≤ x) → ups h (newU nid cs) x = h x
  | [], _, _, _, _ => rfl
  | c :: cs, nid, h, x, hx => by
    show ups (upd h nid _) (newU (nid + 1) cs) x = h x
    simp at hx
    rw [newU_other (by omega), upd_other _ _ (by omega)]

theorem newU_at : ∀ {cs : List (List Cell)} {nid : Nat} {h : Nat → Option Node} {i : Nat} {c : List Cell}, cs[i]? = some c → ups h (newU nid cs) (nid + i) = some (true, c)
  | [], _, _, _, _, h => by simp at h
  | c :: cs, nid, h, 0, c', hc => by
    obtain rfl := Option.some.inj hc
    show ups (upd h nid _) (newU (nid + 1) cs) nid = _
    rw [newU_other (by omega), upd_same]
  | c :: cs, nid, h, i + 1, c', hc => by
    show ups (upd h nid _) (newU (nid + 1) cs) (nid + (i + 1)) = _
    rw [show nid + (i + 1) = nid + 1 + i by omega]
    exact newU_at (show cs[i]? = some c' from hc)

theorem ups_append (h : Nat → Option Node) (a b : Upds) : ups h (a ++ b) = ups (ups h a) b := by simp [ups]

theorem newU_ids : ∀ {cs : List (List Cell)} {nid x : Nat}, x ∈ (newU nid cs).map (·.1) ↔ nid ≤ x ∧ x < nid + cs.length
  | [], nid, x => by simp [newU] <;> omega
  | c :: cs, nid, x => by
    simp only [newU, List.map_cons, List.mem_cons, newU_ids (cs := cs), List.length_cons]; omega

theorem rvs_pure {S : Nat → Prop} {w : World} (S' : Nat → Prop) : ∀ {xs : List Value} {vals : List (Bool × List Cell)} {G : List Nat}, RVs S w xs vals G → vals.all (fun p => pureL p.2) = true → RVs S' w xs vals G
  | [], [], _, h, _ => h
  | [], _ :: _, _, h, _ => h.elim
  | _ :: _, [], _, h, _ => h.elim
  | x :: xs, (b, l) :: vs, G, h, hp => by
    obtain ⟨G1, G2, e, h1, h2⟩ := h
    simp only [List.all_cons, Bool.and_eq_true] at hp
    refine ⟨G1, G2, e, ?_, rvs_pure S' h2 hp.2⟩
    cases b with
    | false => exact rep_pure h1 hp.1 S'
    | true => obtain ⟨ws, e, h1⟩ := h1; exact ⟨ws, e, rep_pure h1 hp.1 S'⟩

theorem rvs_sub {S S' : Nat → Prop} {w : World} (hS : ∀ b, S b → S' b) : ∀ {xs : List Value} {vals : List (Bool × List Cell)} {G : List Nat}, RVs S w xs vals G → RVs S' w xs vals G
  | [], [], _, h => h
  | [], _ :: _, _, h => h.elim
  | _ :: _, [], _, h => h.elim
  | x :: xs, (b, l) :: vs, G, h => by
    obtain ⟨G1, G2, e, h1, h2⟩ := h
    refine ⟨G1, G2, e, ?_, rvs_sub hS h2⟩
    cases b with
    | false => exact rep_sub h1 hS
    | true => obtain ⟨ws, e, h1⟩ := h1; exact ⟨ws, e, rep_sub h1 hS⟩
end

end Go.Proofs.YtopnaijeicknoaaGreatDoor
