/- One operation, part 3: literals made, append, len, conversions. -/
import Derived.Test.YtacfohamlkbpjaaTh
import Derived.Deep.Upon
namespace Go.Proofs.Ytacfohamlkbpjaa
open Go Go.RowKit

section
variable {k : Base} {h : Nat → Option Node} {w : World} {L : Nat → Nat × Nat} {F : Nat → List Nat} {U : Nat → Prop} {nid : Nat} {P : Program}

theorem mapM_places (P : Program) (w : World) : ∀ (fs : List Field), (∀ f ∈ fs, ∃ s, szT P f.type = some s) →
    (fs.mapM (m := Sem) fun f => do pure (f.offset, ← sizeOf f.type)).run P w = .ok (fs.map fun f => (f.offset, (szT P f.type).getD 0)) w
  | [], _ => rfl
  | f :: fs, hs => by
    obtain ⟨s, h1⟩ := hs f (by simp)
    obtain ⟨i, hi, rfl⟩ := szT_some h1
    have ih := mapM_places P w fs (fun f hf => hs f (by simp [hf]))
    have h2 : (sizeOf f.type).run P w = .ok i.size w := by simp [sizeOf, typeInfo, hi]
    simp only [List.mapM_cons, Sem.run_bind, h2, Result.andThen_ok, Sem.run_pure, ih, List.map_cons, h1, Option.getD_some]

theorem snd_build (m : Mem k h w L F U) {t : TypeId} {fs : Array Field} {z out : List Cell} {parts : Array (Nat × Value)} {tparts : List (Nat × TV)} (hu : P.underlying t = some (.struct fs)) (hz : zeroT P t = some z)
    (hall : ∀ f ∈ fs.toList, ∃ s, szT P f.type = some s)
    (hl : parts.toList.length = tparts.length) (hp : ∀ (j : Nat) (p : Nat × Value) (q : Nat × TV), parts.toList[j]? = some p → tparts[j]? = some q → p.1 = q.1 ∧ RTV (SS k h L F w) U L w p.2 q.2)
    (he : fillT (placeT P fs) z tparts = some out) :
    Snd k h w L F U nid ((do pure (Next.value (← Instr.build t parts)) : Sem Next).run P w) (.v true out) [] := by
  obtain ⟨i, v, hi, hv, hs, rfl, h1⟩ := zeroT_some hz
  have hpl : placeT P fs = fun i => (fs.map fun (f : Field) => (f.offset, (szT P f.type).getD 0))[i]? := by
    funext i
    rw [Array.getElem?_map]
    unfold placeT
    cases hf : fs[i]? with
    | none => rfl
    | some f =>
      obtain ⟨s, h2⟩ := hall f (by simpa using Array.mem_of_getElem? hf)
      simp [h2]
  rw [hpl] at he
  obtain ⟨cs', h2, h3⟩ := fill_rep (S := SS k h L F w) (U := U) (L := L) (w := w) parts.toList tparts v.cells (v.cells.toList.map ofV) out (rep_ofV h1) hl hp he
  refine snd_same m (v := .agg cs') ?_ ⟨cs', rfl, h3⟩
  have hm : (fs.mapM (m := Sem) fun f => do pure (f.offset, ← sizeOf f.type)).run P w = .ok (fs.map fun f => (f.offset, (szT P f.type).getD 0)) w := by
    have := mapM_places P w fs.toList hall
    rw [Array.mapM_eq_mapM_toList]
    simp only [Sem.run_map, this, Result.andThen_ok]
    refine congrArg (Result.ok · w) ?_
    apply Array.ext'
    simp
  simp [Instr.build, zeroValue, typeInfo, hi, hv, run_underlying hu, hm, h2, -bind_pure_comp, -Array.getElem?_map]

theorem zeros_eq (z : Array Value) (hz : z.size ≠ 0) : ∀ n : Nat, ((Array.range (n * z.size)).map (fun i => z[i % z.size]!)).toList = (List.replicate n z.toList).flatten
  | 0 => by simp [Array.range_zero']
  | n + 1 => by
    have ih := zeros_eq z hz n
    rw [show List.replicate (n + 1) z.toList = List.replicate n z.toList ++ [z.toList] by rw [List.replicate_succ']]
    rw [List.flatten_append, ← ih]
    apply List.ext_getElem?
    intro j
    simp only [Array.toList_map, Array.toList_range, List.getElem?_map, List.getElem?_append, List.length_map, List.length_range, List.flatten_cons, List.flatten_nil, List.append_nil]
    rw [Nat.add_mul, Nat.one_mul]
    by_cases h1 : j < n * z.size
    · rw [if_pos h1, List.getElem?_range (by omega), List.getElem?_range h1]
    · rw [if_neg h1]
      by_cases h2 : j < n * z.size + z.size
      · rw [List.getElem?_range h2]
        have h3 : j % z.size = j - n * z.size := by
          have : j = (j - n * z.size) + z.size * n := by rw [Nat.mul_comm z.size n]; omega
          rw [this, Nat.add_mul_mod_self_left, Nat.mod_eq_of_lt (by omega)]
          rw [Nat.mul_comm z.size n]; omega
        simp only [Option.map_some, h3]
        have h4 : j - n * z.size < z.size := by omega
        rw [getElem!_pos z _ h4]
        simp [h4]
      · rw [List.getElem?_eq_none (by simp; omega)]
        rw [List.getElem?_eq_none (by simp; omega)]
        rfl

theorem rep_zeros {S : Nat → Prop} {U L w} {z : List Value} (hz : ∀ v ∈ z, v.oneCell' = true) : ∀ n, Rep S U L w (List.replicate n z).flatten (zerosT (z.map ofV) n) []
  | 0 => .nil
  | n + 1 => by
    have := (rep_ofV (S := S) (U := U) (L := L) (w := w) hz).append (rep_zeros hz n)
    simpa [zerosT, List.replicate_succ] using this

theorem snd_buildSlice (m : Mem k h w L F U) (hn : h nid = none) (hU : ¬ U nid) {t e : TypeId} {n : Nat} {z out : List Cell} {parts : Array (Nat × Value)} {tparts : List (Nat × TV)} (hee : elemT P t = some e) (hz : zeroT P e = some z)
    (hc : n * z.length ≤ 16777216 ∧ z.length ≠ 0)
    (hl : parts.toList.length = tparts.length) (hp : ∀ (j : Nat) (p : Nat × Value) (q : Nat × TV), parts.toList[j]? = some p → tparts[j]? = some q → p.1 = q.1 ∧ RTV (SS k h L F w) U L w p.2 q.2)
    (he : fillT (fun i => some (i * z.length, z.length)) (zerosT z n) tparts = some out) :
    Snd k h w L F U nid ((do pure (Next.value (← Instr.buildSlice t n parts)) : Sem Next).run P w) (.v false [.ref nid 0 n z.length]) [(nid, some (true, out))] := by
  have hu := elemT_some hee
  obtain ⟨i, v, hi, hv, hs, rfl, h1⟩ := zeroT_some hz
  have hzl : (v.cells.toList.map ofV).length = i.size := by simp [hs]
  rw [hzl] at hc he ⊢
  have hvs : v.cells.size ≠ 0 := by rw [hs]; exact hc.2
  have ez := zeros_eq v.cells hvs n
  rw [hs] at ez
  obtain ⟨cs', h2, h3⟩ := fill_rep (S := SS k h L F w) (U := U) (L := L) (w := w) parts.toList tparts ((Array.range (n * i.size)).map (fun j => v.cells[j % i.size]!)) (zerosT (v.cells.toList.map ofV) n) out (by rw [ez]; exact rep_zeros h1 n) hl hp he
  have hlen : cs'.size = n * i.size := by
    have : ∀ (ps : List (Nat × Value)) (cs cs' : Array Value), Instr.fill (fun j => some (j * i.size, i.size)) cs ps = some cs' → cs'.size = cs.size := by
      intro ps
      induction ps with
      | nil => intro cs cs' hh; simp [Instr.fill] at hh; rw [hh]
      | cons p ps ih =>
        intro cs cs' hh
        obtain ⟨q, x⟩ := p
        simp only [Instr.fill] at hh
        split at hh
        · cases hh
        · rw [ih _ _ hh]
          have : ∀ (l : List (Value × Nat)) (cs : Array Value), (l.foldl (fun cs (p : Value × Nat) => cs.setIfInBounds (q * i.size + p.2) p.1) cs).size = cs.size := by
            intro l
            induction l with
            | nil => intro cs; rfl
            | cons a l ih => intro cs; rw [List.foldl_cons, ih]; simp
          rw [← Array.foldl_toList]
          exact this _ _
    rw [this _ _ _ h2]; simp
  refine snd_new_ref m hn hU (c := cs') (e := e) (us := cs'.toList) (cap := n) h3 (fun _ _ hv => hv) (by simp) (by rw [hlen]; exact Nat.le_refl _) (Nat.le_refl _) (fun e => e) ?_
  have hns : ¬ (n * i.size > 2 ^ 24) := by omega
  by_cases h0 : n * i.size = 0
  · have : n = 0 := by rcases Nat.mul_eq_zero.1 h0 with h | h; exact h; exact absurd h hc.2
    subst this
    simp only [Nat.zero_mul, Array.range_zero', Array.map_empty] at h2
    have hzz : ((Array.range 0).map fun _ : Nat => (default : Value)) = #[] := by simp [Array.range_zero']
    simp [Instr.buildSlice, run_underlying hu, sizeOf, typeInfo, hi, newRow, hzz, h2]
  · simp [Instr.buildSlice, run_underlying hu, sizeOf, typeInfo, hi, hns, h0, zeroValue, hv, newRow, hs, h2]

theorem snd_makeSlice (m : Mem k h w L F U) (hn : h nid = none) (hU : ¬ U nid) {t e : TypeId} {i : TypeInfo} {z : List Cell} {kl kc : IntKind} {n : Int} (hee : elemT P t = some e) (hi : P.info? e = some i) (hz : zeroT P e = some z)
    (h0 : 0 ≤ n) (h1 : n ≤ 140737488355328) (h2 : n.toNat * i.bytes ≤ 140737488355328) (h3 : z.length ≠ 0) :
    Snd k h w L F U nid ((do pure (Next.value (← Instr.makeSlice t (.int kl n) (.int kc n))) : Sem Next).run P w) (.v false [.ref nid 0 n.toNat z.length]) [(nid, some (true, zerosT z n.toNat))] := by
  obtain ⟨i', v, hi', hv, hs, rfl, h4⟩ := zeroT_some hz
  obtain rfl : i' = i := by rw [hi] at hi'; exact (Option.some.inj hi').symm
  have hvs : v.cells.size ≠ 0 := by simpa using h3
  have ez := zeros_eq v.cells hvs n.toNat
  rw [hs] at ez
  have hb : (i'.bytes : Int) * n ≤ 281474976710656 := by
    have : ((n.toNat * i'.bytes : Nat) : Int) ≤ 140737488355328 := by omega
    rw [Int.natCast_mul, Int.toNat_of_nonneg h0, Int.mul_comm] at this
    omega
  have hr := run_make (P := P) w t e i' v (elemT_some hee) hi hv kl kc n n h0 (Int.le_refl _) hb (by omega)
  have hm : (madeCells v.cells (n.toNat * i'.size)).toList = (List.replicate n.toNat v.cells.toList).flatten := by
    rw [← ez]; simp [madeCells, hs]
  refine snd_new_ref m hn hU (c := madeCells v.cells (n.toNat * i'.size)) (e := e) (us := (List.replicate n.toNat v.cells.toList).flatten) (cap := n.toNat) (rep_zeros h4 _) (fun _ _ hv => by rw [hm]; exact hv)
    (by rw [← hm]; simp) (by simp [madeCells, hs]) (Nat.le_refl _) (fun e => e) ?_
  simp [hr]

/-! ### append -/
theorem byteC_rep {S : Nat → Prop} {U L w} (b : ByteArray) : Rep S U L w (byteCells b) (byteC b.data.toList) [] := by
  unfold byteCells byteC
  have : ∀ l : List UInt8, Rep S U L w (l.map fun b => Value.int .u8 b.toNat) (l.map fun b => Cell.prim (.int .u8 b.toNat)) [] := by
    intro l
    induction l with
    | nil => exact .nil
    | cons a l ih => exact .prim rfl ih
  exact this _

theorem rangeAt_add {w : World} {b o : Nat} {us : List Value} (hr : w.rangeAt b o us) : ∀ (j : Nat) (u : Value), us[j]? = some u → w.cell? ((⟨b, o, none⟩ : Addr).add j) = some u :=
  fun j u hu => by rw [Addr.add_mid]; exact hr j u hu

theorem src_of (m : Mem k h w L F U) {tx : TypeId} {s m' : Nat} {x : Value} {tv : TV} {N : List Cell} (hx : RTV (SS k h L F w) U L w x tv) (he : srcT h s tv = some (m', N))
    (hk : srcTy P tx = true) :
    ∃ news, Src P s tx x m' news w ∧ Rep (SS k h L F w) U L w news N [] ∧ N.length = m' * s := by
  have hkind : (∃ e', P.underlying tx = some (.slice e')) ∨ P.underlying tx = some .string := by
    unfold srcTy at hk
    rcases (Bool.or_eq_true _ _).mp hk with hk | hk
    · obtain ⟨e, he⟩ := Option.isSome_iff_exists.1 hk; exact .inl ⟨e, elemT_some he⟩
    · refine .inr ?_; split at hk
      · rename_i hh; exact hh
      · cases hk
  have mk : ∀ (a : Addr) (n c : Nat) (news : List Value), news.length = n * s → (∀ (j : Nat) (u : Value), news[j]? = some u → w.cell? (a.add j) = some u) → (∀ u ∈ news, u.oneCell' = true) → Src P s tx (.slice (some a) n c) n news w :=
    fun a n c news h1 h2 h3 => ⟨hkind, fun _ => rfl, run_firstCells_some w s n a n c news h1 h2, run_firstCells_some w.drew s n a n c news h1 (by simpa using h2), h1, h3⟩
  unfold srcT at he
  split at he
  · obtain ⟨rfl, rfl⟩ := Prod.mk.inj (Option.some.inj he)
    obtain rfl := rep_nilc hx
    exact ⟨[], ⟨hkind, fun _ => rfl, run_firstCells_none w s 0 0 0, run_firstCells_none w.drew s 0 0 0, by simp, by simp⟩, .nil, by simp⟩
  · rename_i n s' l
    split at he
    · rename_i e
      obtain ⟨rfl, rfl⟩ := Prod.mk.inj (Option.some.inj he)
      subst e
      cases hx with
      | @ro0 p cap _ _ _ _ h0 _ =>
        cases p with
        | none =>
          obtain rfl := h0 rfl
          exact ⟨[], ⟨hkind, fun _ => rfl, run_firstCells_none w s' 0 0 0, run_firstCells_none w.drew s' 0 0 0, by simp, by simp⟩, .nil, by simp⟩
        | some a => exact ⟨[], mk a 0 cap [] (by simp) (fun j u h => by simp at h) (by simp), .nil, by simp⟩
      | @ro b o _ cap _ _ us _ _ _ h1 h2 h3 h4 hcl h5 hnil =>
        cases hnil
        exact ⟨us, mk _ _ _ us (by rw [h5.length, h2]) (rangeAt_add h4) h5.one, h5, h2⟩
    · cases he
  · rename_i id off n s'
    split at he
    · rename_i o cs hid
      split at he
      · rename_i hc
        obtain ⟨rfl, rfl⟩ := Prod.mk.inj (Option.some.inj he)
        obtain ⟨rfl, hc1, hc2⟩ := hc
        obtain ⟨_, us, h1, h2, h3, _⟩ := m.node id _ hid
        simp only at h2
        have hr := rep_mid off (n * s') h2 hc2
        have hl := h2.length
        cases hx with
        | ref0 hU hp _ =>
          rcases hp with rfl | ⟨b, o, rfl⟩
          · exact ⟨[], ⟨hkind, fun _ => rfl, run_firstCells_none w s' 0 0 0, run_firstCells_none w.drew s' 0 0 0, by simp, by simp⟩, by simpa using Rep.nil, by simp⟩
          · exact ⟨[], mk _ _ _ [] (by simp) (fun j u h => by simp at h) (by simp), by simpa using Rep.nil, by simp⟩
        | ref hU hW hn hz hnil =>
          cases hnil
          exact ⟨_, mk _ _ _ _ (by simp; omega) (rangeAt_add (rangeAt_take (rangeAt_drop h1 off) _)) hr.one, hr, by simp; omega⟩
      · cases he
    · cases he
  · rename_i b
    split at he
    · rename_i e
      obtain ⟨rfl, rfl⟩ := Prod.mk.inj (Option.some.inj he)
      subst e
      obtain rfl := rep_prim hx
      exact ⟨byteCells b, ⟨hkind, fun _ => rfl, firstCells_string b w, firstCells_string b w.drew, by rw [byteCells_length, Nat.mul_one], fun u hu => by
        obtain ⟨_, _, rfl⟩ := List.mem_map.1 hu
        rfl⟩, byteC_rep b, by rw [← (byteC_rep (S := SS k h L F w) (U := U) (L := L) (w := w) b).length, byteCells_length, Nat.mul_one]⟩
    · cases he
  · cases he

theorem grow_ok {n m' cap bytes : Nat} (hg : cap < n + m') (hb : (n + m') * bytes ≤ 140737488355328) : Builtin.nextslicecap (n + m') cap * bytes ≤ 281474976710656 := growslice_fits hg hb

theorem snd_append (m : Mem k h w L F U) (hn : h nid = none) (hU : ¬ U nid) {ts tx ty : TypeId} {s x : Value} {tvs tvx tv : TV} {l} (hs : RTV (SS k h L F w) U L w s tvs) (hx : RTV (SS k h L F w) U L w x tvx)
    (he : appendT P h nid ts tx tvs tvx = some (tv, l)) : Snd k h w L F U nid ((do pure (Next.value (← Builtin.append_ #[ts, tx] ty #[s, x])) : Sem Next).run P w) tv l := by
  unfold appendT at he
  split at he
  · cases he
  · rename_i e hee
    have hu := elemT_some hee
    split at he
    · rename_i i z hi hz
      obtain ⟨i', v, hi', hv, hvs, _, hv1⟩ := zeroT_some hz
      obtain rfl : i' = i := by rw [hi] at hi'; exact (Option.some.inj hi').symm
      split at he
      · rename_i hk
        obtain ⟨hk, hsz⟩ := hk
        split at he
        · rename_i m' N hsrc
          obtain ⟨news, hsr, hrN, hlN⟩ := src_of m hx hsrc hk
          have hnl := hsr.newsLen
          split at he
          · -- nil
            obtain rfl := rep_nilc hs
            split at he
            · rename_i hc
              obtain ⟨rfl, rfl⟩ := Prod.mk.inj (Option.some.inj he)
              by_cases h0 : m' = 0
              · subst h0
                have : news = [] := List.eq_nil_of_length_eq_zero (by simpa using hnl)
                subst this
                obtain rfl : N = [] := List.eq_nil_of_length_eq_zero (by simpa using hlN)
                have hr := run_append_nothing (P := P) w ts tx ty e i' hu hi none 0 0 (Nat.le_refl _) x hsr
                obtain ⟨m2, mo2⟩ := m.virt hn hU
                exact ⟨_, _, _, _, _, by rw [Sem.run_bind, hr]; rfl, .inl ⟨_, rfl, .ref0 (.inr rfl) (.inl rfl) .nil⟩, m2, mo2, fun i hi => hi.imp (fun x => x) (fun e => by simp [e])⟩
              · have hr := run_append_grow_src (P := P) w ts tx ty e i' v hu hi hv none 0 0 [] (run_firstCells_none w.drew i'.size 0 0 0) x m' news hsr (by omega) (by omega) (grow_ok (by omega) (by simpa using hc.2))
                refine Snd.drew m fun m2 mo => ?_
                have hge := grownCap_ge w (0 + m') 0 e
                refine snd_new_ref m2 hn hU (us := news) (cap := grownCap w (0 + m') 0 e) (mo.rep hrN) ?_ ?_ ?_ (by omega) (fun q => absurd q h0) (by rw [Sem.run_bind, hr]; simp only [Nat.zero_add, World.drew]; rfl)
                · intro j u hu'
                  simp
                  rw [List.getElem?_append_left (List.getElem?_eq_some_iff.1 hu').1]; exact hu'
                · simp
                · simp [Builtin.zeroCells, hvs, hnl]
                  rw [← Nat.add_mul]
                  exact Nat.mul_le_mul_right _ (by omega)
            · cases he
          · -- an own slice
            rename_i id off n s'
            split at he
            · rename_i es
              subst es
              split at he
              · rename_i cs hid
                split at he
                · rename_i hc
                  obtain ⟨rfl, rfl⟩ := Prod.mk.inj (Option.some.inj he)
                  obtain ⟨hc1, hc2, hc3⟩ := hc
                  have ecs : cs = cs.take off ++ (cs.drop off).take (n * i'.size) ++ cs.drop (off + n * i'.size) := by
                    rw [List.append_assoc, ← List.drop_drop, List.take_append_drop, List.take_append_drop]
                  have hidc : h id = some (true, cs.take off ++ (cs.drop off).take (n * i'.size) ++ cs.drop (off + n * i'.size)) := by rw [hid]; exact congrArg (fun q => some (true, q)) ecs
                  have hA : (cs.take off).length = off := by simp; omega
                  have hB : ((cs.drop off).take (n * i'.size)).length = n * i'.size := by simp; omega
                  cases hs with
                  | @ref0 p _ _ _ _ _ _ hUi hp hnil =>
                    cases hnil
                    by_cases h0 : m' = 0
                    · subst h0
                      have : news = [] := List.eq_nil_of_length_eq_zero (by simpa using hnl)
                      subst this
                      obtain rfl : N = [] := List.eq_nil_of_length_eq_zero (by simpa using hlN)
                      have hr := run_append_nothing (P := P) w ts tx ty e i' hu hi p 0 0 (Nat.le_refl _) x hsr
                      obtain ⟨F', m2, mo2⟩ := m.swap0 (nid := nid) hid hn hU
                      have eN : (cs.drop off).take (0 * i'.size) ++ [] = ([] : List Cell) := by simp
                      rw [eN]
                      exact ⟨_, _, _, _, _, by rw [Sem.run_bind, hr]; rfl, .inl ⟨_, rfl, .ref0 (.inr rfl) hp .nil⟩, m2, mo2, fun i hi => hi.imp (fun x => x) (fun e => by simp [e])⟩
                    · obtain ⟨m0, mo0⟩ := m.same (w' := w.drew) rfl rfl rfl rfl
                      have hgr := grow_ok (n := 0) (m' := m') (cap := 0) (bytes := i'.bytes) (by omega) hc3
                      obtain ⟨G, olds, ho1, ho2, hall⟩ := m0.appendNew (nid := nid) (rest := (Builtin.zeroCells v.cells (grownCap w (0 + m') 0 e - (0 + m'))).toList) e hidc hn hU (mo0.rep hrN)
                      rw [hB, Nat.zero_mul] at ho2
                      obtain rfl : olds = [] := List.eq_nil_of_length_eq_zero ho2
                      have hfc : (Builtin.firstCells i'.size 0 (.slice p 0 0)).run P w.drew = .ok ([] : List Value).toArray w.drew := by
                        rcases hp with rfl | ⟨b, o, rfl⟩
                        · exact run_firstCells_none w.drew i'.size 0 0 0
                        · exact run_firstCells_some w.drew i'.size 0 ⟨b, o, none⟩ 0 0 [] (by simp) (fun j u h => by simp at h)
                      have hr := run_append_grow_src (P := P) w ts tx ty e i' v hu hi hv p 0 0 [] hfc x m' news hsr (by omega) (by omega) hgr
                      obtain ⟨m2, mo2⟩ := hall (([] ++ news).toArray ++ Builtin.zeroCells v.cells (grownCap w (0 + m') 0 e - (0 + m'))) (by simp)
                      have hge := grownCap_ge w (0 + m') 0 e
                      refine ⟨_, _, _, _, _, by rw [Sem.run_bind, hr]; rfl, .inl ⟨_, rfl, ?_⟩, m2, mo0.trans mo2, fun i hi => hi.imp (fun x => x) (fun e => by simp [e])⟩
                      have key : ∀ (L' : Nat → Nat × Nat) (U' : Nat → Prop) (S' : Nat → Prop) (w' : World) (c : Nat), L' nid = (w.heap.size, 0) → U' nid → Wr w' w.heap.size (0 + 0 + c * i'.size) → 0 + m' ≤ c →
                          Rep S' U' L' w' [.slice (some ⟨w.heap.size, 0, none⟩) (0 + m') c] [.ref nid 0 (0 + m') i'.size] [] := fun L' U' S' w' c e1 e2 e3 e4 => by
                        have := @Rep.ref S' U' L' w' nid 0 (0 + m') i'.size c [] [] [] e2 (by rw [e1]; exact e3) e4 (by omega) .nil
                        rw [e1] at this; exact this
                      refine key _ _ _ _ _ (upd_same _ _ _) (.inr rfl) ((wr_alloc w.drew _ e).mono ?_) hge
                      simp [Builtin.zeroCells, hvs, hnl]
                      rw [← Nat.add_mul]
                      exact Nat.mul_le_mul_right _ (by omega)
                  | @ref _ _ _ _ cap _ _ _ hUi hW hnc hnz hnil =>
                    cases hnil
                    have hlv := hrN.length
                    have hBne : (cs.drop off).take (n * i'.size) ≠ [] := fun e => by
                      rw [e] at hB
                      rcases Nat.mul_eq_zero.1 (show n * i'.size = 0 from hB.symm) with q | q
                      · exact hnz q
                      · exact hsz q
                    by_cases hroom : n + m' ≤ cap
                    · have hcm : (n + m') * i'.size ≤ cap * i'.size := Nat.mul_le_mul_right _ hroom
                      rw [Nat.add_mul] at hcm
                      obtain ⟨G, m2, mo2, hth⟩ := m.appendIn (nid := nid) hidc hn hU hrN hBne hW (by rw [hA, hB]; omega)
                      rw [hA, hB] at hth m2 mo2
                      have hr : (Builtin.append_ #[ts, tx] ty #[.slice (some ⟨(L id).1, (L id).2 + off, none⟩) n cap, x]).run P w =
                          .ok (.slice (some ⟨(L id).1, (L id).2 + off, none⟩) (n + m') cap) (w.setCells (L id).1 ((L id).2 + off + n * i'.size) news) := by
                        by_cases h0 : m' = 0
                        · subst h0
                          have : news = [] := List.eq_nil_of_length_eq_zero (by simpa using hnl)
                          subst this
                          exact run_append_nothing (P := P) w ts tx ty e i' hu hi (some ⟨(L id).1, (L id).2 + off, none⟩) n cap hnc x hsr
                        · exact run_append_room_src (P := P) w ts tx ty e i' hu hi (L id).1 ((L id).2 + off) n cap x m' news hsr hroom (fun j hj => (hth j hj).1) (fun j hj => (hth j hj).2)
                      refine ⟨_, _, _, _, _, by rw [Sem.run_bind, hr]; rfl, .inl ⟨_, rfl, ?_⟩, m2, mo2, fun i hi => hi.imp (fun x => x) (fun e => by simp [e])⟩
                      have key : ∀ (L' : Nat → Nat × Nat) (U' : Nat → Prop) (S' : Nat → Prop) (w' : World), L' nid = ((L id).1, (L id).2 + off) → U' nid → Wr w' (L id).1 ((L id).2 + off + cap * i'.size) →
                          Rep S' U' L' w' [.slice (some ⟨(L id).1, (L id).2 + off, none⟩) (n + m') cap] [.ref nid 0 (n + m') i'.size] [] := fun L' U' S' w' e1 e2 e3 => by
                        have := @Rep.ref S' U' L' w' nid 0 (n + m') i'.size cap [] [] [] e2 (by rw [e1]; exact e3) hroom (by omega) .nil
                        rw [e1] at this; exact this
                      exact key _ _ _ _ (upd_same _ _ _) (.inr rfl) (hW.grows mo2.2.2)
                    · obtain ⟨m0, mo0⟩ := m.same (w' := w.drew) rfl rfl rfl rfl
                      have hgr := grow_ok (n := n) (m' := m') (cap := cap) (bytes := i'.bytes) (by omega) hc3
                      obtain ⟨G, olds, ho1, ho2, hall⟩ := m0.appendNew (nid := nid) (rest := (Builtin.zeroCells v.cells (grownCap w (n + m') cap e - (n + m'))).toList) e hidc hn hU (mo0.rep hrN)
                      rw [hA] at ho1
                      rw [hB] at ho2
                      have hfc : (Builtin.firstCells i'.size n (.slice (some ⟨(L id).1, (L id).2 + off, none⟩) n cap)).run P w.drew = .ok olds.toArray w.drew :=
                        run_firstCells_some w.drew i'.size n ⟨(L id).1, (L id).2 + off, none⟩ n cap olds ho2 (rangeAt_add ho1)
                      have hr := run_append_grow_src (P := P) w ts tx ty e i' v hu hi hv (some ⟨(L id).1, (L id).2 + off, none⟩) n cap olds hfc x m' news hsr (by omega) (by omega) hgr
                      obtain ⟨m2, mo2⟩ := hall ((olds ++ news).toArray ++ Builtin.zeroCells v.cells (grownCap w (n + m') cap e - (n + m'))) (by simp)
                      have hge := grownCap_ge w (n + m') cap e
                      refine ⟨_, _, _, _, _, by rw [Sem.run_bind, hr]; rfl, .inl ⟨_, rfl, ?_⟩, m2, mo0.trans mo2, fun i hi => hi.imp (fun x => x) (fun e => by simp [e])⟩
                      have key : ∀ (L' : Nat → Nat × Nat) (U' : Nat → Prop) (S' : Nat → Prop) (w' : World) (c : Nat), L' nid = (w.heap.size, 0) → U' nid → Wr w' w.heap.size (0 + 0 + c * i'.size) → n + m' ≤ c →
                          Rep S' U' L' w' [.slice (some ⟨w.heap.size, 0, none⟩) (n + m') c] [.ref nid 0 (n + m') i'.size] [] := fun L' U' S' w' c e1 e2 e3 e4 => by
                        have := @Rep.ref S' U' L' w' nid 0 (n + m') i'.size c [] [] [] e2 (by rw [e1]; exact e3) e4 (by omega) .nil
                        rw [e1] at this; exact this
                      refine key _ _ _ _ _ (upd_same _ _ _) (.inr rfl) ((wr_alloc w.drew _ e).mono ?_) hge
                      simp [Builtin.zeroCells, hvs, ho2, hnl]
                      rw [← Nat.add_mul, ← Nat.add_mul]
                      exact Nat.mul_le_mul_right _ (by omega)
                · cases he
              · cases he
            · cases he
          · cases he
        · cases he
      · cases he
    · cases he
end

end Go.Proofs.Ytacfohamlkbpjaa
