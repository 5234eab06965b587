/- What the law comes to: functions of the program, each with what it gives back, and the plain facts behind them. -/
import Derived.Deep.Upon
import Derived.Laws.BytesString
import Derived.Orders
import Derived.LoopN
import Derived.Tactics
import Derived.Test.YtddikflnjloagaaGreatDoorPa
namespace Go.Proofs.YtddikflnjloagaaGreatDoor

section
open Go Go.RowKit

section

variable {k : Base} {h : Nat → Option Node} {w : World} {L : Nat → Nat × Nat} {F : Nat → List Nat} {U : Nat → Prop} {nid : Nat} {P : Program}

theorem mapM_places (P : Program) (w : World) : ∀ (fs : List Field), (∀ f ∈ fs, ∃ s, szT P f.type = some s) →
    (fs.mapM (m := Sem) fun f => do pure (f.offset, ← sizeOf f.type)).run P w = .ok (fs.map fun f => (f.offset, (szT P f.type).getD 0)) w
  | [], _ => rfl
  | f :: fs, hs => by
    obtain ⟨s, h1⟩ := hs f (by simp)
    obtain ⟨i, hi, rfl⟩ := szT_some h1
    have ih := mapM_places P w fs (fun f hf => hs f (by simp [hf]))
    have h2 : (sizeOf f.type).run P w = .ok i.size w := by simp [sizeOf, typeInfo, hi]
    simp only [List.mapM_cons, Sem.run_bind, h2, Result.andThen_ok, Sem.run_pure, ih, List.map_cons, h1, Option.getD_some]

theorem snd_build (m : Mem k h w L F U) {t : TypeId} {fs : Array Field} {z out : List Cell} {parts : Array (Nat × Value)} {tparts : List (Nat × TV)} (hu : P.underlying t = some (.struct fs)) (hz : zeroT P t = some z)
    (hall : ∀ f ∈ fs.toList, ∃ s, szT P f.type = some s)
    (hl : parts.toList.length = tparts.length) (hp : ∀ (j : Nat) (p : Nat × Value) (q : Nat × TV), parts.toList[j]? = some p → tparts[j]? = some q → p.1 = q.1 ∧ RTV (SS k h L F w) U L w p.2 q.2)
    (he : fillT (placeT P fs) z tparts = some out) :
    Snd k h w L F U nid ((do pure (Next.value (← Instr.build t parts)) : Sem Next).run P w) (.v true out) [] := by
  obtain ⟨i, v, hi, hv, hs, rfl, h1⟩ := zeroT_some hz
  have hpl : placeT P fs = fun i => (fs.map fun (f : Field) => (f.offset, (szT P f.type).getD 0))[i]? := by
    funext i
    rw [Array.getElem?_map]
    unfold placeT
    cases hf : fs[i]? with
    | none => rfl
    | some f =>
      obtain ⟨s, h2⟩ := hall f (by simpa using Array.mem_of_getElem? hf)
      simp [h2]
  rw [hpl] at he
  obtain ⟨cs', h2, h3⟩ := fill_rep (S := SS k h L F w) (U := U) (L := L) (w := w) parts.toList tparts v.cells (v.cells.toList.map ofV) out (rep_ofV h1) hl hp he
  refine snd_same m (v := .agg cs') ?_ ⟨cs', rfl, h3⟩
  have hm : (fs.mapM (m := Sem) fun f => do pure (f.offset, ← sizeOf f.type)).run P w = .ok (fs.map fun f => (f.offset, (szT P f.type).getD 0)) w := by
    have := mapM_places P w fs.toList hall
    rw [Array.mapM_eq_mapM_toList]
    simp only [Sem.run_map, this, Result.andThen_ok]
    refine congrArg (Result.ok · w) ?_
    apply Array.ext'
    simp
  simp [Instr.build, zeroValue, typeInfo, hi, hv, run_underlying hu, hm, h2, -bind_pure_comp, -Array.getElem?_map]

theorem zeros_eq (z : Array Value) (hz : z.size ≠ 0) : ∀ n : Nat, ((Array.range (n * z.size)).map (fun i => z[i % z.size]!)).toList = (List.replicate n z.toList).flatten
  | 0 => by simp [Array.range_zero']
  | n + 1 => by
    have ih := zeros_eq z hz n
    rw [show List.replicate (n + 1) z.toList = List.replicate n z.toList ++ [z.toList] by rw [List.replicate_succ']]
    rw [List.flatten_append, ← ih]
    apply List.ext_getElem?
    intro j
    simp only [Array.toList_map, Array.toList_range, List.getElem?_map, List.getElem?_append, List.length_map, List.length_range, List.flatten_cons, List.flatten_nil, List.append_nil]
    rw [Nat.add_mul, Nat.one_mul]
    by_cases h1 : j < n * z.size
    · rw [if_pos h1, List.getElem?_range (by omega), List.getElem?_range h1]
    · rw [if_neg h1]
      by_cases h2 : j < n * z.size + z.size
      · rw [List.getElem?_range h2]
        have h3 : j % z.size = j - n * z.size := by
          have : j = (j - n * z.size) + z.size * n := by rw [Nat.mul_comm z.size n]; omega
          rw [this, Nat.add_mul_mod_self_left, Nat.mod_eq_of_lt (by omega)]
          rw [Nat.mul_comm z.size n]; omega
        simp only [Option.map_some, h3]
        have h4 : j - n * z.size < z.size := by omega
        rw [getElem!_pos z _ h4]
        simp [h4]
      · rw [List.getElem?_eq_none (by simp; omega)]
        rw [List.getElem?_eq_none (by simp; omega)]
        rfl

theorem rep_zeros {S : Nat → Prop} {U L w} {z : List Value} (hz : ∀ v ∈ z, v.oneCell' = true) : ∀ n, Rep S U L w (List.replicate n z).flatten (zerosT (z.map ofV) n) []
  | 0 => .nil
  | n + 1 => by
    have := (rep_ofV (S := S) (U := U) (L := L) (w := w) hz).append (rep_zeros hz n)
    simpa [zerosT, List.replicate_succ] using this

theorem snd_buildSlice (m : Mem k h w L F U) (hn : h nid = none) (hU : ¬ U nid) {t e : TypeId} {n : Nat} {z out : List Cell} {parts : Array (Nat × Value)} {tparts : List (Nat × TV)} (hee : elemT P t = some e) (hz : zeroT P e = some z)
    (hc : n * z.length ≤ 16777216 ∧ z.length ≠ 0)
    (hl : parts.toList.length = tparts.length) (hp : ∀ (j : Nat) (p : Nat × Value) (q : Nat × TV), parts.toList[j]? = some p → tparts[j]? = some q → p.1 = q.1 ∧ RTV (SS k h L F w) U L w p.2 q.2)
    (he : fillT (fun i => some (i * z.length, z.length)) (zerosT z n) tparts = some out) :
    Snd k h w L F U nid ((do pure (Next.value (← Instr.buildSlice t n parts)) : Sem Next).run P w) (.v false [.ref nid 0 n z.length]) [(nid, some (true, out))] := by
  have hu := elemT_some hee
  obtain ⟨i, v, hi, hv, hs, rfl, h1⟩ := zeroT_some hz
  have hzl : (v.cells.toList.map ofV).length = i.size := by simp [hs]
  rw [hzl] at hc he ⊢
  have hvs : v.cells.size ≠ 0 := by rw [hs]; exact hc.2
  have ez := zeros_eq v.cells hvs n
  rw [hs] at ez
  obtain ⟨cs', h2, h3⟩ := fill_rep (S := SS k h L F w) (U := U) (L := L) (w := w) parts.toList tparts ((Array.range (n * i.size)).map (fun j => v.cells[j % i.size]!)) (zerosT (v.cells.toList.map ofV) n) out (by rw [ez]; exact rep_zeros h1 n) hl hp he
  have hlen : cs'.size = n * i.size := by
    have : ∀ (ps : List (Nat × Value)) (cs cs' : Array Value), Instr.fill (fun j => some (j * i.size, i.size)) cs ps = some cs' → cs'.size = cs.size := by
      intro ps
      induction ps with
      | nil => intro cs cs' hh; simp [Instr.fill] at hh; rw [hh]
      | cons p ps ih =>
        intro cs cs' hh
        obtain ⟨q, x⟩ := p
        simp only [Instr.fill] at hh
        split at hh
        · cases hh
        · rw [ih _ _ hh]
          have : ∀ (l : List (Value × Nat)) (cs : Array Value), (l.foldl (fun cs (p : Value × Nat) => cs.setIfInBounds (q * i.size + p.2) p.1) cs).size = cs.size := by
            intro l
            induction l with
            | nil => intro cs; rfl
            | cons a l ih => intro cs; rw [List.foldl_cons, ih]; simp
          rw [← Array.foldl_toList]
          exact this _ _
    rw [this _ _ _ h2]; simp
  refine snd_new_ref m hn hU (c := cs') (e := e) (us := cs'.toList) (cap := n) h3 (fun _ _ hv => hv) (by simp) (by rw [hlen]; exact Nat.le_refl _) (Nat.le_refl _) (fun e => e) ?_
  have hns : ¬ (n * i.size > 2 ^ 24) := by omega
  by_cases h0 : n * i.size = 0
  · have : n = 0 := by rcases Nat.mul_eq_zero.1 h0 with h | h; exact h; exact absurd h hc.2
    subst this
    simp only [Nat.zero_mul, Array.range_zero', Array.map_empty] at h2
    have hzz : ((Array.range 0).map fun _ : Nat => (default : Value)) = #[] := by simp [Array.range_zero']
    simp [Instr.buildSlice, run_underlying hu, sizeOf, typeInfo, hi, newRow, hzz, h2]
  · simp [Instr.buildSlice, run_underlying hu, sizeOf, typeInfo, hi, hns, h0, zeroValue, hv, newRow, hs, h2]

theorem snd_makeSlice (m : Mem k h w L F U) (hn : h nid = none) (hU : ¬ U nid) {t e : TypeId} {i : TypeInfo} {z : List Cell} {kl kc : IntKind} {n : Int} (hee : elemT P t = some e) (hi : P.info? e = some i) (hz : zeroT P e = some z)
    (h0 : 0 ≤ n) (h1 : n ≤ 140737488355328) (h2 : n.toNat * i.bytes ≤ 140737488355328) (h3 : z.length ≠ 0) :
    Snd k h w L F U nid ((do pure (Next.value (← Instr.makeSlice t (.int kl n) (.int kc n))) : Sem Next).run P w) (.v false [.ref nid 0 n.toNat z.length]) [(nid, some (true, zerosT z n.toNat))] := by
  obtain ⟨i', v, hi', hv, hs, rfl, h4⟩ := zeroT_some hz
  obtain rfl : i' = i := by rw [hi] at hi'; exact (Option.some.inj hi').symm
  have hvs : v.cells.size ≠ 0 := by simpa using h3
  have ez := zeros_eq v.cells hvs n.toNat
  rw [hs] at ez
  have hb : (i'.bytes : Int) * n ≤ 281474976710656 := by
    have : ((n.toNat * i'.bytes : Nat) : Int) ≤ 140737488355328 := by omega
    rw [Int.natCast_mul, Int.toNat_of_nonneg h0, Int.mul_comm] at this
    omega
  have hr := run_make (P := P) w t e i' v (elemT_some hee) hi hv kl kc n n h0 (Int.le_refl _) hb (by omega)
  have hm : (madeCells v.cells (n.toNat * i'.size)).toList = (List.replicate n.toNat v.cells.toList).flatten := by
    rw [← ez]; simp [madeCells, hs]
  refine snd_new_ref m hn hU (c := madeCells v.cells (n.toNat * i'.size)) (e := e) (us := (List.replicate n.toNat v.cells.toList).flatten) (cap := n.toNat) (rep_zeros h4 _) (fun _ _ hv => by rw [hm]; exact hv)
    (by rw [← hm]; simp) (by simp [madeCells, hs]) (Nat.le_refl _) (fun e => e) ?_
  simp [hr]

/-! ### append -/

theorem byteC_rep {S : Nat → Prop} {U L w} (b : ByteArray) : Rep S U L w (byteCells b) (byteC b.data.toList) [] := by
  unfold byteCells byteC
  have : ∀ l : List UInt8, Rep S U L w (l.map fun b => Value.int .u8 b.toNat) (l.map fun b => Cell.prim (.int .u8 b.toNat)) [] := by
    intro l
    induction l with
    | nil => exact .nil
    | cons a l ih => exact .prim rfl ih
  exact this _

theorem rangeAt_add {w : World} {b o : Nat} {us : List Value} (hr : w.rangeAt b o us) : ∀ (j : Nat) (u : Value), us[j]? = some u → w.cell? ((⟨b, o, none⟩ : Addr).add j) = some u :=
  fun j u hu => by rw [Addr.add_mid]; exact hr j u hu

theorem src_of (m : Mem k h w L F U) {tx : TypeId} {s m' : Nat} {x : Value} {tv : TV} {N : List Cell} (hx : RTV (SS k h L F w) U L w x tv) (he : srcT h s tv = some (m', N))
    (hk : srcTy P tx = true) :
    ∃ news, Src P s tx x m' news w ∧ Rep (SS k h L F w) U L w news N [] ∧ N.length = m' * s := by
  have hkind : (∃ e', P.underlying tx = some (.slice e')) ∨ P.underlying tx = some .string := by
    unfold srcTy at hk
    rcases (Bool.or_eq_true _ _).mp hk with hk | hk
    · obtain ⟨e, he⟩ := Option.isSome_iff_exists.1 hk; exact .inl ⟨e, elemT_some he⟩
    · refine .inr ?_; split at hk
      · rename_i hh; exact hh
      · cases hk
  have mk : ∀ (a : Addr) (n c : Nat) (news : List Value), news.length = n * s → (∀ (j : Nat) (u : Value), news[j]? = some u → w.cell? (a.add j) = some u) → (∀ u ∈ news, u.oneCell' = true) → Src P s tx (.slice (some a) n c) n news w :=
    fun a n c news h1 h2 h3 => ⟨hkind, fun _ => rfl, run_firstCells_some w s n a n c news h1 h2, run_firstCells_some w.drew s n a n c news h1 (by simpa using h2), h1, h3⟩
  unfold srcT at he
  split at he
  · obtain ⟨rfl, rfl⟩ := Prod.mk.inj (Option.some.inj he)
    obtain rfl := rep_nilc hx
    exact ⟨[], ⟨hkind, fun _ => rfl, run_firstCells_none w s 0 0 0, run_firstCells_none w.drew s 0 0 0, by simp, by simp⟩, .nil, by simp⟩
  · rename_i n s' l
    split at he
    · rename_i e
      obtain ⟨rfl, rfl⟩ := Prod.mk.inj (Option.some.inj he)
      subst e
      cases hx with
      | @ro0 p cap _ _ _ _ h0 _ =>
        cases p with
        | none =>
          obtain rfl := h0 rfl
          exact ⟨[], ⟨hkind, fun _ => rfl, run_firstCells_none w s' 0 0 0, run_firstCells_none w.drew s' 0 0 0, by simp, by simp⟩, .nil, by simp⟩
        | some a => exact ⟨[], mk a 0 cap [] (by simp) (fun j u h => by simp at h) (by simp), .nil, by simp⟩
      | @ro b o _ cap _ _ us _ _ _ h1 h2 h3 h4 hcl h5 hnil =>
        cases hnil
        exact ⟨us, mk _ _ _ us (by rw [h5.length, h2]) (rangeAt_add h4) h5.one, h5, h2⟩
    · cases he
  · rename_i id off n s'
    split at he
    · rename_i o cs hid
      split at he
      · rename_i hc
        obtain ⟨rfl, rfl⟩ := Prod.mk.inj (Option.some.inj he)
        obtain ⟨rfl, hc1, hc2⟩ := hc
        obtain ⟨_, us, h1, h2, h3, _⟩ := m.node id _ hid
        simp only at h2
        have hr := rep_mid off (n * s') h2 hc2
        have hl := h2.length
        cases hx with
        | ref0 hU hp _ =>
          rcases hp with rfl | ⟨b, o, rfl⟩
          · exact ⟨[], ⟨hkind, fun _ => rfl, run_firstCells_none w s' 0 0 0, run_firstCells_none w.drew s' 0 0 0, by simp, by simp⟩, by simpa using Rep.nil, by simp⟩
          · exact ⟨[], mk _ _ _ [] (by simp) (fun j u h => by simp at h) (by simp), by simpa using Rep.nil, by simp⟩
        | ref hU hW hn hz hnil =>
          cases hnil
          exact ⟨_, mk _ _ _ _ (by simp; omega) (rangeAt_add (rangeAt_take (rangeAt_drop h1 off) _)) hr.one, hr, by simp; omega⟩
      · cases he
    · cases he
  · rename_i b
    split at he
    · rename_i e
      obtain ⟨rfl, rfl⟩ := Prod.mk.inj (Option.some.inj he)
      subst e
      obtain rfl := rep_prim hx
      exact ⟨byteCells b, ⟨hkind, fun _ => rfl, firstCells_string b w, firstCells_string b w.drew, by rw [byteCells_length, Nat.mul_one], fun u hu => by
        obtain ⟨_, _, rfl⟩ := List.mem_map.1 hu
        rfl⟩, byteC_rep b, by rw [← (byteC_rep (S := SS k h L F w) (U := U) (L := L) (w := w) b).length, byteCells_length, Nat.mul_one]⟩
    · cases he
  · cases he

theorem grow_ok {n m' cap bytes : Nat} (hg : cap < n + m') (hb : (n + m') * bytes ≤ 140737488355328) : Builtin.nextslicecap (n + m') cap * bytes ≤ 281474976710656 := growslice_fits hg hb

theorem snd_append (m : Mem k h w L F U) (hn : h nid = none) (hU : ¬ U nid) {ts tx ty : TypeId} {s x : Value} {tvs tvx tv : TV} {l} (hs : RTV (SS k h L F w) U L w s tvs) (hx : RTV (SS k h L F w) U L w x tvx)
    (he : appendT P h nid ts tx tvs tvx = some (tv, l)) : Snd k h w L F U nid ((do pure (Next.value (← Builtin.append_ #[ts, tx] ty #[s, x])) : Sem Next).run P w) tv l := by
  unfold appendT at he
  split at he
  · cases he
  · rename_i e hee
    have hu := elemT_some hee
    split at he
    · rename_i i z hi hz
      obtain ⟨i', v, hi', hv, hvs, _, hv1⟩ := zeroT_some hz
      obtain rfl : i' = i := by rw [hi] at hi'; exact (Option.some.inj hi').symm
      split at he
      · rename_i hk
        obtain ⟨hk, hsz⟩ := hk
        split at he
        · rename_i m' N hsrc
          obtain ⟨news, hsr, hrN, hlN⟩ := src_of m hx hsrc hk
          have hnl := hsr.newsLen
          split at he
          · -- nil
            obtain rfl := rep_nilc hs
            split at he
            · rename_i hc
              obtain ⟨rfl, rfl⟩ := Prod.mk.inj (Option.some.inj he)
              by_cases h0 : m' = 0
              · subst h0
                have : news = [] := List.eq_nil_of_length_eq_zero (by simpa using hnl)
                subst this
                obtain rfl : N = [] := List.eq_nil_of_length_eq_zero (by simpa using hlN)
                have hr := run_append_nothing (P := P) w ts tx ty e i' hu hi none 0 0 (Nat.le_refl _) x hsr
                obtain ⟨m2, mo2⟩ := m.virt hn hU
                exact ⟨_, _, _, _, _, by rw [Sem.run_bind, hr]; rfl, .inl ⟨_, rfl, .ref0 (.inr rfl) (.inl rfl) .nil⟩, m2, mo2, fun i hi => hi.imp (fun x => x) (fun e => by simp [e])⟩
              · have hr := run_append_grow_src (P := P) w ts tx ty e i' v hu hi hv none 0 0 [] (run_firstCells_none w.drew i'.size 0 0 0) x m' news hsr (by omega) (by omega) (grow_ok (by omega) (by simpa using hc.2))
                refine Snd.drew m fun m2 mo => ?_
                have hge := grownCap_ge w (0 + m') 0 e
                refine snd_new_ref m2 hn hU (us := news) (cap := grownCap w (0 + m') 0 e) (mo.rep hrN) ?_ ?_ ?_ (by omega) (fun q => absurd q h0) (by rw [Sem.run_bind, hr]; simp only [Nat.zero_add, World.drew]; rfl)
                · intro j u hu'
                  simp
                  rw [List.getElem?_append_left (List.getElem?_eq_some_iff.1 hu').1]; exact hu'
                · simp
                · simp [Builtin.zeroCells, hvs, hnl]
                  rw [← Nat.add_mul]
                  exact Nat.mul_le_mul_right _ (by omega)
            · cases he
          · -- an own slice
            rename_i id off n s'
            split at he
            · rename_i es
              subst es
              split at he
              · rename_i cs hid
                split at he
                · rename_i hc
                  obtain ⟨rfl, rfl⟩ := Prod.mk.inj (Option.some.inj he)
                  obtain ⟨hc1, hc2, hc3⟩ := hc
                  have ecs : cs = cs.take off ++ (cs.drop off).take (n * i'.size) ++ cs.drop (off + n * i'.size) := by
                    rw [List.append_assoc, ← List.drop_drop, List.take_append_drop, List.take_append_drop]
                  have hidc : h id = some (true, cs.take off ++ (cs.drop off).take (n * i'.size) ++ cs.drop (off + n * i'.size)) := by rw [hid]; exact congrArg (fun q => some (true, q)) ecs
                  have hA : (cs.take off).length = off := by simp; omega
                  have hB : ((cs.drop off).take (n * i'.size)).length = n * i'.size := by simp; omega
                  cases hs with
                  | @ref0 p _ _ _ _ _ _ hUi hp hnil =>
                    cases hnil
                    by_cases h0 : m' = 0
                    · subst h0
                      have : news = [] := List.eq_nil_of_length_eq_zero (by simpa using hnl)
                      subst this
                      obtain rfl : N = [] := List.eq_nil_of_length_eq_zero (by simpa using hlN)
                      have hr := run_append_nothing (P := P) w ts tx ty e i' hu hi p 0 0 (Nat.le_refl _) x hsr
                      obtain ⟨F', m2, mo2⟩ := m.swap0 (nid := nid) hid hn hU
                      have eN : (cs.drop off).take (0 * i'.size) ++ [] = ([] : List Cell) := by simp
                      rw [eN]
                      exact ⟨_, _, _, _, _, by rw [Sem.run_bind, hr]; rfl, .inl ⟨_, rfl, .ref0 (.inr rfl) hp .nil⟩, m2, mo2, fun i hi => hi.imp (fun x => x) (fun e => by simp [e])⟩
                    · obtain ⟨m0, mo0⟩ := m.same (w' := w.drew) rfl rfl rfl rfl
                      have hgr := grow_ok (n := 0) (m' := m') (cap := 0) (bytes := i'.bytes) (by omega) hc3
                      obtain ⟨G, olds, ho1, ho2, hall⟩ := m0.appendNew (nid := nid) (rest := (Builtin.zeroCells v.cells (grownCap w (0 + m') 0 e - (0 + m'))).toList) e hidc hn hU (mo0.rep hrN)
                      rw [hB, Nat.zero_mul] at ho2
                      obtain rfl : olds = [] := List.eq_nil_of_length_eq_zero ho2
                      have hfc : (Builtin.firstCells i'.size 0 (.slice p 0 0)).run P w.drew = .ok ([] : List Value).toArray w.drew := by
                        rcases hp with rfl | ⟨b, o, rfl⟩
                        · exact run_firstCells_none w.drew i'.size 0 0 0
                        · exact run_firstCells_some w.drew i'.size 0 ⟨b, o, none⟩ 0 0 [] (by simp) (fun j u h => by simp at h)
                      have hr := run_append_grow_src (P := P) w ts tx ty e i' v hu hi hv p 0 0 [] hfc x m' news hsr (by omega) (by omega) hgr
                      obtain ⟨m2, mo2⟩ := hall (([] ++ news).toArray ++ Builtin.zeroCells v.cells (grownCap w (0 + m') 0 e - (0 + m'))) (by simp)
                      have hge := grownCap_ge w (0 + m') 0 e
                      refine ⟨_, _, _, _, _, by rw [Sem.run_bind, hr]; rfl, .inl ⟨_, rfl, ?_⟩, m2, mo0.trans mo2, fun i hi => hi.imp (fun x => x) (fun e => by simp [e])⟩
                      have key : ∀ (L' : Nat → Nat × Nat) (U' : Nat → Prop) (S' : Nat → Prop) (w' : World) (c : Nat), L' nid = (w.heap.size, 0) → U' nid → Wr w' w.heap.size (0 + 0 + c * i'.size) → 0 + m' ≤ c →
                          Rep S' U' L' w' [.slice (some ⟨w.heap.size, 0, none⟩) (0 + m') c] [.ref nid 0 (0 + m') i'.size] [] := fun L' U' S' w' c e1 e2 e3 e4 => by
                        have := @Rep.ref S' U' L' w' nid 0 (0 + m') i'.size c [] [] [] e2 (by rw [e1]; exact e3) e4 (by omega) .nil
                        rw [e1] at this; exact this
                      refine key _ _ _ _ _ (upd_same _ _ _) (.inr rfl) ((wr_alloc w.drew _ e).mono ?_) hge
                      simp [Builtin.zeroCells, hvs, hnl]
                      rw [← Nat.add_mul]
                      exact Nat.mul_le_mul_right _ (by omega)
                  | @ref _ _ _ _ cap _ _ _ hUi hW hnc hnz hnil =>
                    cases hnil
                    have hlv := hrN.length
                    have hBne : (cs.drop off).take (n * i'.size) ≠ [] := fun e => by
                      rw [e] at hB
                      rcases Nat.mul_eq_zero.1 (show n * i'.size = 0 from hB.symm) with q | q
                      · exact hnz q
                      · exact hsz q
                    by_cases hroom : n + m' ≤ cap
                    · have hcm : (n + m') * i'.size ≤ cap * i'.size := Nat.mul_le_mul_right _ hroom
                      rw [Nat.add_mul] at hcm
                      obtain ⟨G, m2, mo2, hth⟩ := m.appendIn (nid := nid) hidc hn hU hrN hBne hW (by rw [hA, hB]; omega)
                      rw [hA, hB] at hth m2 mo2
                      have hr : (Builtin.append_ #[ts, tx] ty #[.slice (some ⟨(L id).1, (L id).2 + off, none⟩) n cap, x]).run P w =
                          .ok (.slice (some ⟨(L id).1, (L id).2 + off, none⟩) (n + m') cap) (w.setCells (L id).1 ((L id).2 + off + n * i'.size) news) := by
                        by_cases h0 : m' = 0
                        · subst h0
                          have : news = [] := List.eq_nil_of_length_eq_zero (by simpa using hnl)
                          subst this
                          exact run_append_nothing (P := P) w ts tx ty e i' hu hi (some ⟨(L id).1, (L id).2 + off, none⟩) n cap hnc x hsr
                        · exact run_append_room_src (P := P) w ts tx ty e i' hu hi (L id).1 ((L id).2 + off) n cap x m' news hsr hroom (fun j hj => (hth j hj).1) (fun j hj => (hth j hj).2)
                      refine ⟨_, _, _, _, _, by rw [Sem.run_bind, hr]; rfl, .inl ⟨_, rfl, ?_⟩, m2, mo2, fun i hi => hi.imp (fun x => x) (fun e => by simp [e])⟩
                      have key : ∀ (L' : Nat → Nat × Nat) (U' : Nat → Prop) (S' : Nat → Prop) (w' : World), L' nid = ((L id).1, (L id).2 + off) → U' nid → Wr w' (L id).1 ((L id).2 + off + cap * i'.size) →
                          Rep S' U' L' w' [.slice (some ⟨(L id).1, (L id).2 + off, none⟩) (n + m') cap] [.ref nid 0 (n + m') i'.size] [] := fun L' U' S' w' e1 e2 e3 => by
                        have := @Rep.ref S' U' L' w' nid 0 (n + m') i'.size cap [] [] [] e2 (by rw [e1]; exact e3) hroom (by omega) .nil
                        rw [e1] at this; exact this
                      exact key _ _ _ _ (upd_same _ _ _) (.inr rfl) (hW.grows mo2.2.2)
                    · obtain ⟨m0, mo0⟩ := m.same (w' := w.drew) rfl rfl rfl rfl
                      have hgr := grow_ok (n := n) (m' := m') (cap := cap) (bytes := i'.bytes) (by omega) hc3
                      obtain ⟨G, olds, ho1, ho2, hall⟩ := m0.appendNew (nid := nid) (rest := (Builtin.zeroCells v.cells (grownCap w (n + m') cap e - (n + m'))).toList) e hidc hn hU (mo0.rep hrN)
                      rw [hA] at ho1
                      rw [hB] at ho2
                      have hfc : (Builtin.firstCells i'.size n (.slice (some ⟨(L id).1, (L id).2 + off, none⟩) n cap)).run P w.drew = .ok olds.toArray w.drew :=
                        run_firstCells_some w.drew i'.size n ⟨(L id).1, (L id).2 + off, none⟩ n cap olds ho2 (rangeAt_add ho1)
                      have hr := run_append_grow_src (P := P) w ts tx ty e i' v hu hi hv (some ⟨(L id).1, (L id).2 + off, none⟩) n cap olds hfc x m' news hsr (by omega) (by omega) hgr
                      obtain ⟨m2, mo2⟩ := hall ((olds ++ news).toArray ++ Builtin.zeroCells v.cells (grownCap w (n + m') cap e - (n + m'))) (by simp)
                      have hge := grownCap_ge w (n + m') cap e
                      refine ⟨_, _, _, _, _, by rw [Sem.run_bind, hr]; rfl, .inl ⟨_, rfl, ?_⟩, m2, mo0.trans mo2, fun i hi => hi.imp (fun x => x) (fun e => by simp [e])⟩
                      have key : ∀ (L' : Nat → Nat × Nat) (U' : Nat → Prop) (S' : Nat → Prop) (w' : World) (c : Nat), L' nid = (w.heap.size, 0) → U' nid → Wr w' w.heap.size (0 + 0 + c * i'.size) → n + m' ≤ c →
                          Rep S' U' L' w' [.slice (some ⟨w.heap.size, 0, none⟩) (n + m') c] [.ref nid 0 (n + m') i'.size] [] := fun L' U' S' w' c e1 e2 e3 e4 => by
                        have := @Rep.ref S' U' L' w' nid 0 (n + m') i'.size c [] [] [] e2 (by rw [e1]; exact e3) e4 (by omega) .nil
                        rw [e1] at this; exact this
                      refine key _ _ _ _ _ (upd_same _ _ _) (.inr rfl) ((wr_alloc w.drew _ e).mono ?_) hge
                      simp [Builtin.zeroCells, hvs, ho2, hnl]
                      rw [← Nat.add_mul, ← Nat.add_mul]
                      exact Nat.mul_le_mul_right _ (by omega)
                · cases he
              · cases he
            · cases he
          · cases he
        · cases he
      · cases he
    · cases he

end
end

section
open Go Go.RowKit

section

variable {k : Base} {h : Nat → Option Node} {w : World} {L : Nat → Nat × Nat} {F : Nat → List Nat} {U : Nat → Prop} {nid : Nat} {P : Program}

theorem guard_prim (op : BinOp) (t : TypeId) (x y : Operand) (a b : Value) (h1 : a.oneCell' = true) (h2 : a ≠ .nilIface) : (eqGuard op t x y a b).run P w = .ok () w := by
  unfold eqGuard
  cases op <;> simp <;> cases a <;> simp_all [Value.oneCell']

theorem intT_run {op : BinOp} {t : TypeId} {kk : IntKind} {a b : Int} {r : Value} (he : intT op kk a b = some r) (hns : op ≠ .shl ∧ op ≠ .shr) : (binOp op t (.int kk a) (.int kk b)).run P w = .ok r w ∧ r.oneCell' = true := by
  cases op <;> simp [intT, bitT] at he <;> simp at hns <;>
    first
      | (subst he; simp [binOp, Op.intArith, Op.intBits, Op.intCmp, Value.oneCell']; done)
      | (obtain ⟨h0, rfl⟩ := he; simp [binOp, Op.intDiv, h0, Value.oneCell']; done)

theorem strT_run {op : BinOp} {t : TypeId} {a b : ByteArray} {r : Value} (he : strT op a b = some r) : (binOp op t (.string a) (.string b)).run P w = .ok r w ∧ r.oneCell' = true := by
  cases op <;> simp [strT] at he
  case add =>
    obtain ⟨h0, rfl⟩ := he
    have hn : ¬ (((a.size + b.size : Nat) : Int) > IntKind.i64.max) := by
      have : IntKind.i64.max = 9223372036854775807 := by decide
      omega
    refine ⟨?_, rfl⟩
    simp only [binOp, Op.stringOp]
    rw [if_neg hn]; rfl
  all_goals first | (subst he; exact ⟨rfl, rfl⟩) | (subst he; refine ⟨?_, rfl⟩; simp [binOp, Op.stringOp])

theorem binT_run {op : BinOp} {t : TypeId} {a b r : Value} (he : binT P op t a b = some r) : (binOp op t a b).run P w = .ok r w ∧ r.oneCell' = true ∧ a.oneCell' = true ∧ a ≠ .nilIface := by
  unfold binT at he
  split at he
  · split at he
    · cases he
    · rename_i hb
      obtain rfl := Option.some.inj he
      simp [binOp, Op.shift, hb, Value.oneCell']
  · split at he
    · cases he
    · rename_i hb
      obtain rfl := Option.some.inj he
      simp [binOp, Op.shift, hb, Value.oneCell']
  · rename_i hs1 hs2
    split at he
    · rename_i e
      subst e
      obtain ⟨h1, h2⟩ := intT_run (P := P) (w := w) (t := t) he ⟨hs1, hs2⟩
      exact ⟨h1, h2, rfl, by simp⟩
    · cases he
  · obtain ⟨h1, h2⟩ := strT_run (P := P) (w := w) (t := t) he
    exact ⟨h1, h2, rfl, by simp⟩
  · split at he
    · rename_i hu
      obtain rfl := Option.some.inj he
      refine ⟨?_, rfl, rfl, by simp⟩
      simp [binOp, Op.equal, Op.maxDepth, run_equalIn_bool' w _ t _ _ hu]
    · cases he
  · split at he
    · rename_i hu
      obtain rfl := Option.some.inj he
      refine ⟨?_, rfl, rfl, by simp⟩
      simp [binOp, Op.equal, Op.maxDepth, run_equalIn_bool' w _ t _ _ hu]
    · cases he
  · cases he

theorem snd_bin (m : Mem k h w L F U) {op : BinOp} {t : TypeId} {x y : Operand} {u v a b r : Value} (hx : RTV (SS k h L F w) U L w u (.v false [.prim a])) (hy : RTV (SS k h L F w) U L w v (.v false [.prim b])) (he : binT P op t a b = some r) :
    Snd k h w L F U nid ((do pure (Next.value (← (do eqGuard op t x y u v; binOp op t u v))) : Sem Next).run P w) (.v false [.prim r]) [] := by
  obtain rfl := rep_prim hx
  obtain rfl := rep_prim hy
  obtain ⟨h1, h2, h3, h4⟩ := binT_run (P := P) (w := w) he
  exact snd_same m (v := r) (by simp [guard_prim op t x y u v h3 h4, h1]) (rtv_prim h2)

theorem eqCell_run {t : TypeId} {xs ys : Array Value} {cx cy : List Cell} {off : Nat} {r : Bool} {S U L} (hx : Rep S U L w xs.toList cx []) (hy : Rep S U L w ys.toList cy []) (he : eqCell P t cx[off]? cy[off]? = some r) (d : Nat) :
    ∃ a b, (part t xs off).run P w = .ok a w ∧ (part t ys off).run P w = .ok b w ∧ (Op.equalIn (d + 1) t a b).run P w = .ok r w := by
  have get : ∀ {zs : Array Value} {cz : List Cell} {v : Value}, Rep S U L w zs.toList cz [] → cz[off]? = some (.prim v) → zs[off]? = some v := by
    intro zs cz v hz hc
    have h1 := rep_drop off hz
    have hlt : off < cz.length := (List.getElem?_eq_some_iff.1 hc).1
    rw [List.drop_eq_getElem_cons hlt] at h1
    have hl := hz.length
    rw [List.drop_eq_getElem_cons (by omega)] at h1
    rw [show cz[off] = .prim v by rw [List.getElem?_eq_getElem hlt] at hc; exact Option.some.inj hc] at h1
    have hz2 : off < zs.toList.length := by omega
    have e : zs.toList[off] = v := by
      generalize zs.toList[off] = q at h1
      cases h1; rfl
    rw [← Array.getElem?_toList, List.getElem?_eq_getElem hz2, e]
  have prt : ∀ {zs : Array Value} {v : Value} {dd : TypeDesc}, P.underlying t = some dd → dd.isRow = false → zs[off]? = some v → (part t zs off).run P w = .ok v w := by
    intro zs v dd hu hd hz
    have hagg : (isAgg t).run P w = .ok false w := by
      unfold isAgg
      rw [Sem.run_bind, run_underlying hu w]
      cases dd <;> simp_all
    simp [part, hagg, hz]
  unfold eqCell at he
  split at he
  · rename_i k1 a k2 b e1 e2
    split at he
    · rename_i k3 hu
      split at he
      · rename_i ek
        subst ek
        obtain rfl := Option.some.inj he
        exact ⟨_, _, prt hu rfl (get hx e1), prt hu rfl (get hy e2), run_equalIn_int w d t k1 k3 a b hu⟩
      · cases he
    · cases he
  · rename_i a b e1 e2
    split at he
    · rename_i hu
      obtain rfl := Option.some.inj he
      exact ⟨_, _, prt hu rfl (get hx e1), prt hu rfl (get hy e2), run_equalIn_bool' w d t a b hu⟩
    · cases he
  · rename_i a b e1 e2
    split at he
    · rename_i hu
      obtain rfl := Option.some.inj he
      exact ⟨_, _, prt hu rfl (get hx e1), prt hu rfl (get hy e2), by rw [run_equalIn_string w d t a b hu, beq_toListBytes]⟩
    · cases he
  · cases he

theorem eqFields_run {xs ys : Array Value} {cx cy : List Cell} {S U L} (hx : Rep S U L w xs.toList cx []) (hy : Rep S U L w ys.toList cy []) (d : Nat) : ∀ (fs : List Field) (r : Bool), eqFields P cx cy fs = some r → (Op.eqFields (d + 1) xs ys fs).run P w = .ok r w
  | [], r, he => by simp [eqFields] at he; subst he; simp [Op.eqFields]
  | f :: fs, r, he => by
    unfold eqFields at he
    split at he
    · cases he
    · rename_i hn
      split at he
      · rename_i hc
        obtain ⟨a, b, h1, h2, h3⟩ := eqCell_run (P := P) hx hy hc d
        have ih := eqFields_run hx hy d fs r he
        rw [Op.eqFields, if_pos hn]
        simp [h1, h2, h3, ih]
      · rename_i hc
        obtain ⟨a, b, h1, h2, h3⟩ := eqCell_run (P := P) hx hy hc d
        obtain rfl := Option.some.inj he
        rw [Op.eqFields, if_pos hn]
        simp [h1, h2, h3]
      · cases he

theorem snd_eqStruct (m : Mem k h w L F U) {op : BinOp} {t : TypeId} {x y : Operand} {u v : Value} {l l' : List Cell} {r : Bool} (hx : RTV (SS k h L F w) U L w u (.v true l)) (hy : RTV (SS k h L F w) U L w v (.v true l')) (he : eqStruct P t l l' = some r) :
    (op = .eql → Snd k h w L F U nid ((do pure (Next.value (← (do eqGuard op t x y u v; binOp op t u v))) : Sem Next).run P w) (.v false [.prim (.bool r)]) []) ∧
    (op = .neq → Snd k h w L F U nid ((do pure (Next.value (← (do eqGuard op t x y u v; binOp op t u v))) : Sem Next).run P w) (.v false [.prim (.bool !r)]) []) := by
  obtain ⟨xs, rfl, hx⟩ := hx
  obtain ⟨ys, rfl, hy⟩ := hy
  unfold eqStruct at he
  split at he
  · cases he
  · rename_i hg
    have hg1 : P.stoodInHeld t = false := by simpa using fun e => hg (.inl e)
    have hg2 : P.eqGuardType P.depth t = false := by simpa using fun e => hg (.inr e)
    split at he
    · rename_i fs hu
      have hf : P.fieldsOf t = fs := by simp [Program.fieldsOf, hu]
      have hr := eqFields_run (P := P) hx hy 9998 fs.toList r he
      have hq : (Op.equalIn 10000 t (.agg xs) (.agg ys)).run P w = .ok r w := by
        rw [run_equalIn_struct (P := P) w 9999 t xs ys (by rw [hf]; exact hu) hg1, hf]; exact hr
      refine ⟨fun e => ?_, fun e => ?_⟩
      · subst e
        exact snd_same m (v := .bool r) (by simp [eqGuard, hg2, binOp, Op.equal, Op.maxDepth, hq]) (rtv_prim rfl)
      · subst e
        exact snd_same m (v := .bool !r) (by simp [eqGuard, hg2, binOp, Op.equal, Op.maxDepth, hq]) (rtv_prim rfl)
    · cases he

theorem snd_un (m : Mem k h w L F U) {op : UnOp} {u a r : Value} (hx : RTV (SS k h L F w) U L w u (.v false [.prim a])) (he : unT op a = some r) :
    Snd k h w L F U nid ((do pure (Next.value (← Op.unary op u)) : Sem Next).run P w) (.v false [.prim r]) [] := by
  obtain rfl := rep_prim hx
  unfold unT at he
  split at he
  · obtain rfl := Option.some.inj he
    exact snd_same m (by simp [Op.unary, Op.intArith]) (rtv_prim rfl)
  · simp [bitT] at he
    subst he
    exact snd_same m (by simp [Op.unary, Op.intBits]) (rtv_prim rfl)
  · obtain rfl := Option.some.inj he
    exact snd_same m (by simp [Op.unary]) (rtv_prim rfl)
  · cases he

end
end

section
open Go Go.RowKit

section

variable {k : Base} {h : Nat → Option Node} {w : World} {L : Nat → Nat × Nat} {F : Nat → List Nat} {U : Nat → Prop} {nid : Nat} {P : Program}

theorem snd_conv_int (m : Mem k h w L F U) {s d : TypeId} {u : Value} {ds : TypeDesc} {kk kk' : IntKind} {n : Int} (hs : P.underlying s = some ds) (hd : P.underlying d = some (.int kk)) (hx : RTV (SS k h L F w) U L w u (.v false [.prim (.int kk' n)])) :
    Snd k h w L F U nid ((do pure (Next.value (← convert s d u)) : Sem Next).run P w) (.v false [.prim (.int kk (kk.wrap n))]) [] := by
  obtain rfl := rep_prim hx
  exact snd_same m (v := .int kk (kk.wrap n)) (by simp [convert, run_underlying hs, run_underlying hd, Conv.intToInt]) (rtv_prim rfl)

theorem snd_conv_str (m : Mem k h w L F U) {s d : TypeId} {u : Value} {b : ByteArray} (hs : P.underlying s = some .string) (hd : P.underlying d = some .string) (hx : RTV (SS k h L F w) U L w u (.v false [.prim (.string b)])) :
    Snd k h w L F U nid ((do pure (Next.value (← convert s d u)) : Sem Next).run P w) (.v false [.prim (.string b)]) [] := by
  obtain rfl := rep_prim hx
  exact snd_same m (v := .string b) (by simp [convert, run_underlying hs, run_underlying hd]) (rtv_prim rfl)

theorem snd_conv_bytes (m : Mem k h w L F U) {s d e : TypeId} {u : Value} {b : ByteArray} (hs : P.underlying s = some .string) (hd : P.underlying d = some (.slice e)) (he : P.underlying e = some (.int .u8))
    (hx : RTV (SS k h L F w) U L w u (.v false [.prim (.string b)])) :
    Snd k h w L F U nid ((do pure (Next.value (← convert s d u)) : Sem Next).run P w) (.v false [.sl false b.size 1 (byteC b.data.toList)]) [] := by
  obtain rfl := rep_prim hx
  have hr := Lib.run_convert_string_bytes w s d e b hs hd he
  have hnew := Lib.bytesWorld_at_new w e b
  have hsz := Lib.bytesWorld_size w e b
  have hge := grownCap_ge w b.size 0 e
  have g : Grows w (Lib.bytesWorld w e b) := ⟨by omega, fun x c e' fr hb => ⟨c, by rw [Lib.bytesWorld_at_old w e b x (Array.getElem?_eq_some_iff.1 hb).1]; exact hb, rfl⟩⟩
  obtain ⟨m', mo⟩ := m.master (h' := h) (w' := Lib.bytesWorld w e b) (L' := L) (F' := F) (U' := U) g (by simp [Lib.bytesWorld, World.freeze, World.alloc, World.drew, -World.alloc_eq, -World.drew_eq]) (by simp [Lib.bytesWorld, World.freeze, World.alloc, World.drew, -World.alloc_eq, -World.drew_eq]) (by simp [Lib.bytesWorld, World.freeze, World.alloc, World.drew, -World.alloc_eq, -World.drew_eq])
    (fun i b hb => .inl ⟨i, hb⟩) m.nodup m.disj (fun x hx _ => Lib.bytesWorld_at_old w e b x hx) (fun i hi => ⟨hi, rfl⟩)
    (fun mo id nd hid => m.keep mo hid rfl (fun x hx => Lib.bytesWorld_at_old w e b x (Own.lt m hx)))
  refine ⟨_, _, _, _, _, by rw [Sem.run_bind, hr]; rfl, .inl ⟨_, rfl, ?_⟩, m', mo, fun i hi => .inl hi⟩
  have hra : (Lib.bytesWorld w e b).rangeAt w.heap.size 0 (byteCells b) := by
    intro j v hv
    have hj : j < b.size := by rw [← byteCells_length]; exact (List.getElem?_eq_some_iff.1 hv).1
    have h1 := Lib.bytesWorld_cell w e b j hj
    simp only [Nat.zero_add]
    rw [h1, ← hv, byteCells, List.getElem?_map]
    have : j < b.data.toList.length := by simpa using hj
    simp [List.getD, List.getElem?_eq_getElem this]
  have hlen : (byteC b.data.toList).length = b.size * 1 := by simp [byteC]
  have hcl : ∀ l : List UInt8, closedL (byteC l) = true := by
    intro l
    induction l with
    | nil => rfl
    | cons a l ih => simpa [byteC, closedL, Cell.closed] using ih
  exact .ro (fun _ => ⟨.inr (.inr m.grows.1), by omega, fun i hi => by have := Own.lt m hi; omega⟩) hlen hge hra (hcl _) (byteC_rep b) .nil

theorem strOf_ints : ∀ {N : List Cell} {bs : List UInt8}, strOf N = some bs → ∃ ns : List Int, N = ns.map (fun n => .prim (.int .u8 n)) ∧ bs = ns.map fun n => UInt8.ofNat n.toNat
  | [], bs, he => by simp [strOf] at he; subst he; exact ⟨[], rfl, rfl⟩
  | c :: N, bs, he => by
    unfold strOf at he
    split at he
    · rename_i e; cases e
    · rename_i n l e
      obtain ⟨rfl, rfl⟩ := List.cons.inj e
      cases hs : strOf N with
      | none => simp [hs] at he
      | some b' =>
        simp [hs] at he
        obtain ⟨ns, h1, h2⟩ := strOf_ints hs
        exact ⟨n :: ns, by simp [h1], by rw [← he, h2]; rfl⟩
    · cases he

theorem foldl_push : ∀ (ns : List Int) (r : ByteArray), ns.foldl (fun r n => r.push (UInt8.ofNat n.toNat)) r = ⟨(r.data.toList ++ ns.map fun n => UInt8.ofNat n.toNat).toArray⟩
  | [], r => by simp
  | n :: ns, r => by
    rw [List.foldl_cons, foldl_push ns]
    simp [ByteArray.push]

theorem rep_ints {S : Nat → Prop} {U L w} : ∀ {ns : List Int} {us : List Value}, Rep S U L w us (ns.map fun n => .prim (.int .u8 n)) [] → us = ns.map (Value.int .u8)
  | [], us, hr => by have := hr.length; simpa using this
  | n :: ns, us, hr => by
    cases hr with
    | prim _ hr => rw [rep_ints hr]; rfl

theorem snd_conv_text (m : Mem k h w L F U) {s d e : TypeId} {u : Value} {tv : TV} {n : Nat} {N : List Cell} {bs : List UInt8} (hs : P.underlying s = some (.slice e)) (hd : P.underlying d = some .string) (he : P.underlying e = some (.int .u8))
    (hx : RTV (SS k h L F w) U L w u tv) (hsrc : srcT h 1 tv = some (n, N)) (hp : ∀ v, tv ≠ .v false [.prim v]) (hN : strOf N = some bs) :
    Snd k h w L F U nid ((do pure (Next.value (← convert s d u)) : Sem Next).run P w) (.v false [.prim (.string ⟨bs.toArray⟩)]) [] := by
  obtain ⟨ns, rfl, rfl⟩ := strOf_ints hN
  have main : ∀ (a : Addr) (len cap : Nat) (us : List Value), us.length = len → (∀ (j : Nat) (u : Value), us[j]? = some u → w.cell? (a.add j) = some u) → Rep (SS k h L F w) U L w us (ns.map fun n => .prim (.int .u8 n)) [] →
      (convert s d (.slice (some a) len cap)).run P w = .ok (.string ⟨(ns.map fun n => UInt8.ofNat n.toNat).toArray⟩) w := by
    intro a len cap us h1 h2 h3
    have e := rep_ints h3
    have hl : (loadCells a len).run P w = .ok (ns.map (Value.int .u8)).toArray w := by rw [← h1, ← e]; exact run_loadCells_list (P := P) w a us h2
    have := run_bytesToString w a len cap ns hl
    rw [foldl_push] at this
    have hsd : (s == d) = false := by
      rw [beq_eq_false_iff_ne]; intro e; subst e; rw [hs] at hd; cases hd
    simp [convert, run_underlying hs, run_underlying hd, run_underlying he, this]
  unfold srcT at hsrc
  split at hsrc
  · obtain ⟨_, h2⟩ := Prod.mk.inj (Option.some.inj hsrc)
    obtain rfl : ns = [] := by simpa using h2.symm
    obtain rfl := rep_nilc hx
    exact snd_same m (v := .string .empty) (by simp [convert, run_underlying hs, run_underlying hd, run_underlying he, Conv.bytesToString]) (rtv_prim rfl)
  · rename_i n' s' l
    split at hsrc
    · obtain ⟨rfl, el⟩ := Prod.mk.inj (Option.some.inj hsrc)
      rename_i es
      subst es
      cases hx with
      | @ro0 p cap _ _ _ _ h0 _ =>
        obtain rfl : ns = [] := by simpa using el.symm
        cases p with
        | some a => exact snd_same m (by simp [main a 0 cap [] rfl (fun j u h => by simp at h) .nil]) (rtv_prim rfl)
        | none =>
        obtain rfl := h0 rfl
        exact snd_same m (v := .string .empty) (by simp [convert, run_underlying hs, run_underlying hd, run_underlying he, Conv.bytesToString]) (rtv_prim rfl)
      | @ro b o _ cap _ _ us _ _ _ h1 h2 h3 h4 hcl h5 hnil =>
        cases hnil
        subst el
        exact snd_same m (by simp [main _ _ cap us (by rw [h5.length, h2, Nat.mul_one]) (rangeAt_add h4) h5]) (rtv_prim rfl)
    · cases hsrc
  · rename_i id off n' s'
    split at hsrc
    · rename_i o cs hid
      split at hsrc
      · rename_i hc
        obtain ⟨rfl, e2⟩ := Prod.mk.inj (Option.some.inj hsrc)
        obtain ⟨rfl, hc1, hc2⟩ := hc
        obtain ⟨_, us, h1, h2, h3, _⟩ := m.node id _ hid
        simp only at h2
        have hr := rep_mid off (n' * 1) h2 hc2
        have hl := h2.length
        rw [e2] at hr
        cases hx with
        | ref0 hU hpp _ =>
          have e0 : ns = [] := by simpa using e2.symm
          subst e0
          rcases hpp with rfl | ⟨b, o, rfl⟩
          · exact snd_same m (v := .string .empty) (by simp [convert, run_underlying hs, run_underlying hd, run_underlying he, Conv.bytesToString]) (rtv_prim rfl)
          · exact snd_same m (by simp [main ⟨b, o, none⟩ 0 0 [] rfl (fun j u h => by simp at h) .nil]) (rtv_prim rfl)
        | @ref _ _ _ _ cap _ _ _ hU hW hn hz hnil =>
          cases hnil
          exact snd_same m (by simp [main ⟨(L id).1, (L id).2 + off, none⟩ n' cap ((us.drop off).take (n' * 1)) (by simp; omega) (rangeAt_add (rangeAt_take (rangeAt_drop h1 off) (n' * 1))) hr]) (rtv_prim rfl)
      · cases hsrc
    · cases hsrc
  · exact absurd rfl (hp _)
  · cases hsrc

/-! ### Cuts -/

theorem bound_run {c : BoundsCode} {x : Value} {j : Int} {kk : IntKind} {y : Nat} (h0 : 0 ≤ j) (hy : j.toNat ≤ y) (hx : x = .int kk j) : (Instr.sliceBound x y c).run P w = .ok j.toNat w := by
  subst hx
  have : 0 ≤ j ∧ j ≤ (y : Int) := ⟨h0, by omega⟩
  simp [Instr.sliceBound, asIntOf, this]

/-- What the bounds of a cut are, beside what T says. -/
theorem bounds_run {S : Nat → Prop} {U' L'} {isSlice : Bool} {len cap l hh : Nat} {lo hi : Option Value} {tlo thi : Option TV}
    (hlo : (lo = none ∧ tlo = none) ∨ ∃ x t, lo = some x ∧ tlo = some t ∧ RTV S U' L' w x t) (hhi : (hi = none ∧ thi = none) ∨ ∃ x t, hi = some x ∧ thi = some t ∧ RTV S U' L' w x t)
    (h1 : boundT 0 tlo = some l) (h2 : boundT len thi = some hh) (hle : l ≤ hh) (hcap : hh ≤ cap) :
    (Instr.sliceBounds isSlice len cap lo hi none).run P w = .ok (l, hh, cap) w := by
  have e1 : ∀ (t : Option TV) (d r : Nat), boundT d t = some r → (t = none ∧ d = r) ∨ ∃ kk j, t = some (.v false [.prim (.int kk j)]) ∧ 0 ≤ j ∧ j.toNat = r := by
    intro t d r he
    unfold boundT at he
    split at he
    · exact .inl ⟨rfl, Option.some.inj he⟩
    · split at he
      · exact .inr ⟨_, _, rfl, by assumption, Option.some.inj he⟩
      · cases he
    · cases he
  have hL : (lo = none ∧ l = 0) ∨ ∃ kk j, lo = some (.int kk j) ∧ 0 ≤ j ∧ j.toNat = l := by
    rcases hlo with ⟨rfl, rfl⟩ | ⟨x, t, rfl, rfl, hr⟩
    · simp [boundT] at h1; exact .inl ⟨rfl, h1.symm⟩
    · rcases e1 _ _ _ h1 with ⟨e, _⟩ | ⟨kk, j, e, h0, h3⟩
      · cases e
      · obtain rfl := Option.some.inj e
        exact .inr ⟨kk, j, by rw [rep_prim hr], h0, h3⟩
  have hH : (hi = none ∧ hh = len) ∨ ∃ kk j, hi = some (.int kk j) ∧ 0 ≤ j ∧ j.toNat = hh := by
    rcases hhi with ⟨rfl, rfl⟩ | ⟨x, t, rfl, rfl, hr⟩
    · simp [boundT] at h2; exact .inl ⟨rfl, h2.symm⟩
    · rcases e1 _ _ _ h2 with ⟨e, _⟩ | ⟨kk, j, e, h0, h3⟩
      · cases e
      · obtain rfl := Option.some.inj e
        exact .inr ⟨kk, j, by rw [rep_prim hr], h0, h3⟩
  clear hlo hhi h1 h2 e1
  rcases hL with ⟨rfl, rfl⟩ | ⟨k1, j1, rfl, h1, rfl⟩ <;> rcases hH with ⟨rfl, rfl⟩ | ⟨k2, j2, rfl, h2, rfl⟩
  · simp [Instr.sliceBounds]
  · have := fun c => bound_run (P := P) (w := w) (c := c) (kk := k2) h2 hcap rfl
    simp [Instr.sliceBounds, this]
  · have := fun c => bound_run (P := P) (w := w) (c := c) (kk := k1) h1 hle rfl
    simp [Instr.sliceBounds, this]
  · have a1 := fun c => bound_run (P := P) (w := w) (c := c) (kk := k1) h1 hle rfl
    have a2 := fun c => bound_run (P := P) (w := w) (c := c) (kk := k2) h2 hcap rfl
    simp [Instr.sliceBounds, a1, a2]

theorem snd_slice_str (m : Mem k h w L F U) {t : TypeId} {u : Value} {b : ByteArray} {lo hi : Option Value} {tlo thi : Option TV} {l hh : Nat}
    (hlo : (lo = none ∧ tlo = none) ∨ ∃ x t, lo = some x ∧ tlo = some t ∧ RTV (SS k h L F w) U L w x t) (hhi : (hi = none ∧ thi = none) ∨ ∃ x t, hi = some x ∧ thi = some t ∧ RTV (SS k h L F w) U L w x t)
    (hu : P.underlying t = some .string) (hx : RTV (SS k h L F w) U L w u (.v false [.prim (.string b)])) (h1 : boundT 0 tlo = some l) (h2 : boundT b.size thi = some hh) (hle : l ≤ hh) (hcap : hh ≤ b.size) :
    Snd k h w L F U nid ((do pure (Next.value (← Instr.sliceAt t u lo hi none)) : Sem Next).run P w) (.v false [.prim (.string (b.extract l hh))]) [] := by
  obtain rfl := rep_prim hx
  have hb := bounds_run (P := P) (w := w) (isSlice := false) (len := b.size) (cap := b.size) hlo hhi h1 h2 hle hcap
  exact snd_same m (v := .string (b.extract l hh)) (by simp [Instr.sliceAt, Instr.slice, run_underlying hu, hb]) (rtv_prim rfl)

theorem snd_slice (m : Mem k h w L F U) {t e : TypeId} {u : Value} {c c' : Cell} {lo hi : Option Value} {tlo thi : Option TV} {s n l hh : Nat}
    (hlo : (lo = none ∧ tlo = none) ∨ ∃ x t, lo = some x ∧ tlo = some t ∧ RTV (SS k h L F w) U L w x t) (hhi : (hi = none ∧ thi = none) ∨ ∃ x t, hi = some x ∧ thi = some t ∧ RTV (SS k h L F w) U L w x t)
    (hee : elemT P t = some e) (hs : szT P e = some s) (hx : RTV (SS k h L F w) U L w u (.v false [c]))
    (hnn : nOf c = some n) (h1 : boundT 0 tlo = some l) (h2 : boundT n thi = some hh) (he : sliceT c s l hh = some c') :
    Snd k h w L F U nid ((do pure (Next.value (← Instr.sliceAt t u lo hi none)) : Sem Next).run P w) (.v false [c']) [] := by
  have hu := elemT_some hee
  obtain ⟨i, hi', rfl⟩ := szT_some hs
  unfold sliceT at he
  split at he
  · rename_i hle
    split at he
    · obtain rfl := rep_nilc hx
      simp [nOf] at hnn
      subst hnn
      split at he
      · rename_i h0
        obtain rfl := Option.some.inj he
        subst h0
        obtain rfl : l = 0 := by omega
        have hb := bounds_run (P := P) (w := w) (isSlice := true) (len := 0) (cap := 0) hlo hhi h1 h2 hle (Nat.le_refl _)
        exact snd_same m (v := .slice none 0 0) (by simp [Instr.sliceAt, Instr.slice, run_underlying hu, hb, sizeOf, typeInfo, hi']) (.nils .nil)
      · cases he
    · rename_i n' s' cl
      simp [nOf] at hnn
      subst hnn
      split at he
      · rename_i hc
        obtain rfl := Option.some.inj he
        obtain ⟨hc1, rfl⟩ := hc
        cases hx with
        | @ro0 p cap _ _ _ _ h0 _ =>
          obtain rfl : hh = 0 := by omega
          obtain rfl : l = 0 := by omega
          have hb := bounds_run (P := P) (w := w) (isSlice := true) (len := 0) (cap := cap) hlo hhi h1 h2 hle (by omega)
          simp only [Nat.zero_mul, Nat.sub_self, List.take_zero]
          cases p with
          | none =>
            obtain rfl := h0 rfl
            exact snd_same m (v := .slice none 0 0) (by simp [Instr.sliceAt, Instr.slice, run_underlying hu, hb, sizeOf, typeInfo, hi']) (.ro0 (fun _ => rfl) .nil)
          | some a =>
            refine snd_same m (v := .slice (some a) 0 cap) ?_ (.ro0 (fun e => by cases e) .nil)
            simp [Instr.sliceAt, Instr.slice, run_underlying hu, hb, sizeOf, typeInfo, hi']
            intro _; simp [Addr.add]
        | @ro b o _ cap _ _ us _ _ _ g1 g2 g3 g4 hcl g5 hnil =>
          cases hnil
          have hb := bounds_run (P := P) (w := w) (isSlice := true) (len := n') (cap := cap) hlo hhi h1 h2 hle (by omega)
          have hlen : ((cl.drop (l * i.size)).take ((hh - l) * i.size)).length = (hh - l) * i.size := by
            have : hh * i.size ≤ n' * i.size := Nat.mul_le_mul_right _ hc1
            have e2 : (hh - l) * i.size = hh * i.size - l * i.size := Nat.sub_mul _ _ _
            simp; omega
          by_cases hm : cap = l
          · subst hm
            have : hh - cap = 0 := by omega
            refine snd_same m (v := .slice (some ⟨b, o, none⟩) (hh - cap) (cap - cap)) (by simp [Instr.sliceAt, Instr.slice, run_underlying hu, hb, sizeOf, typeInfo, hi']) ?_
            have hz : (cl.drop (cap * i.size)).take ((hh - cap) * i.size) = [] := by rw [this]; simp
            rw [hz]
            exact .ro (us := []) (fun hc => absurd rfl hc) (by simp [this]) (by omega) (rangeAt_nil _ _ _) rfl .nil .nil
          · refine snd_same m (v := .slice (some ⟨b, o + l * i.size, none⟩) (hh - l) (cap - l)) (by simp [Instr.sliceAt, Instr.slice, run_underlying hu, hb, sizeOf, typeInfo, hi', hm, Addr.add_mid]) ?_
            exact .ro (us := (us.drop (l * i.size)).take ((hh - l) * i.size)) (fun hne => g1 (fun e => hne (by rw [e]; simp))) hlen (by omega) (rangeAt_take (rangeAt_drop g4 _) _) (closedL_take _ _ (closedL_drop _ _ hcl)) (rep_take _ (rep_drop _ g5)) .nil
      · cases he
    · rename_i id off n' s'
      simp [nOf] at hnn
      subst hnn
      split at he
      · rename_i hc
        obtain ⟨hc1, rfl⟩ := hc
        cases hx with
        | ref0 hU hp _ =>
          obtain rfl : hh = 0 := by omega
          obtain rfl : l = 0 := by omega
          rw [if_pos rfl] at he
          obtain rfl := Option.some.inj he
          have hb := bounds_run (P := P) (w := w) (isSlice := true) (len := 0) (cap := 0) hlo hhi h1 h2 hle (Nat.le_refl _)
          rcases hp with rfl | ⟨b, o, rfl⟩
          · exact snd_same m (v := .slice none 0 0) (by simp [Instr.sliceAt, Instr.slice, run_underlying hu, hb, sizeOf, typeInfo, hi']) (.ro0 (fun _ => rfl) .nil)
          · exact snd_same m (v := .slice (some ⟨b, o, none⟩) 0 0) (by simp [Instr.sliceAt, Instr.slice, run_underlying hu, hb, sizeOf, typeInfo, hi']) (ro_zero (.inr ⟨_, _, rfl⟩) .nil)
        | @ref _ _ _ _ cap _ _ _ hU hW hn hz hnil =>
          cases hnil
          have hb := bounds_run (P := P) (w := w) (isSlice := true) (len := n') (cap := cap) hlo hhi h1 h2 hle (by omega)
          split at he
          · rename_i el
            obtain rfl := Option.some.inj he
            subst el
            by_cases hm : cap = l
            · subst hm
              refine snd_same m (v := .slice (some ⟨(L id).1, (L id).2 + off, none⟩) (cap - cap) (cap - cap)) (by simp [Instr.sliceAt, Instr.slice, run_underlying hu, hb, sizeOf, typeInfo, hi']) ?_
              rw [Nat.sub_self]
              exact .ro (us := []) (fun hc => absurd rfl hc) (by simp) (by omega) (rangeAt_nil _ _ _) rfl .nil .nil
            · refine snd_same m (v := .slice (some ⟨(L id).1, (L id).2 + off + l * i.size, none⟩) (l - l) (cap - l)) (by simp [Instr.sliceAt, Instr.slice, run_underlying hu, hb, sizeOf, typeInfo, hi', hm, Addr.add_mid]) ?_
              rw [Nat.sub_self]
              exact .ro (us := []) (fun hc => absurd rfl hc) (by simp) (by omega) (rangeAt_nil _ _ _) rfl .nil .nil
          · rename_i el
            obtain rfl := Option.some.inj he
            have hm : ¬ cap = l := by omega
            refine snd_same m (v := .slice (some ⟨(L id).1, (L id).2 + (off + l * i.size), none⟩) (hh - l) (cap - l)) (by simp [Instr.sliceAt, Instr.slice, run_underlying hu, hb, sizeOf, typeInfo, hi', hm, Addr.add_mid, Nat.add_assoc]) ?_
            refine .ref hU (hW.mono ?_) (by omega) (by omega) .nil
            have : (cap - l) * i.size = cap * i.size - l * i.size := Nat.sub_mul _ _ _
            have : l * i.size ≤ cap * i.size := Nat.mul_le_mul_right _ (by omega)
            omega
      · cases he
    · cases he
  · cases he

/-! ### Parts -/

theorem snd_field (m : Mem k h w L F U) {st : TypeId} {f : Nat} {fd : Field} {n : Nat} {r : Bool} {u : Value} {l : List Cell} (hf : fieldT P st f = some fd) (hs : szT P fd.type = some n) (hrw : rowT P fd.type = some r)
    (hx : RTV (SS k h L F w) U L w u (.v true l)) (hc : (r = true ∨ n = 1) ∧ fd.offset + n ≤ l.length) :
    Snd k h w L F U nid ((do pure (Next.value (← Instr.field st u f)) : Sem Next).run P w) (.v r ((l.drop fd.offset).take n)) [] := by
  obtain ⟨fs, hu, hfs⟩ := fieldT_some hf
  obtain ⟨i, hi, rfl⟩ := szT_some hs
  obtain ⟨vs, rfl, hr⟩ := hx
  have hl := hr.length
  have hlen : fd.offset + i.size ≤ vs.size := by simp at hl; omega
  have hr' := rep_take i.size (rep_drop fd.offset hr)
  unfold rowT at hrw
  cases hd : P.underlying fd.type with
  | none => simp [hd] at hrw
  | some d =>
    simp [hd] at hrw
    cases r with
    | true =>
      have hagg : (isAgg fd.type).run P w = .ok true w := by
        unfold isAgg
        rw [Sem.run_bind, run_underlying hd w]
        cases d <;> simp_all
      refine snd_same m (v := .agg (vs.extract fd.offset (fd.offset + i.size))) (by simp [Instr.field, run_underlying hu, hfs, part, hagg, sizeOf, typeInfo, hi, asAgg]) ⟨_, rfl, ?_⟩
      rw [Array.toList_extract, List.extract_eq_take_drop]
      simpa using hr'
    | false =>
      have h1 : i.size = 1 := hc.1.resolve_left (by simp)
      have hagg : (isAgg fd.type).run P w = .ok false w := by
        unfold isAgg
        rw [Sem.run_bind, run_underlying hd w]
        cases d <;> simp_all
      have hlt : fd.offset < vs.size := by omega
      refine snd_same m (v := vs[fd.offset]) (by simp [Instr.field, run_underlying hu, hfs, part, hagg, asAgg, hlt]) ?_
      rw [h1] at hr' ⊢
      rw [List.drop_eq_getElem_cons (l := vs.toList) (by simpa using hlt)] at hr'
      show Rep _ _ _ _ _ _ _
      simpa using hr'

theorem snd_extract (m : Mem k h w L F U) {u : Value} {i : Nat} {l : List (Bool × List Cell)} {b : Bool} {cs : List Cell} (hx : RTV (SS k h L F w) U L w u (.tup l)) (hi : l[i]? = some (b, cs)) :
    Snd k h w L F U nid ((do pure (Next.value (← Instr.extract u i)) : Sem Next).run P w) (.v b cs) [] := by
  obtain ⟨xs, rfl, hl, hr⟩ := hx
  have hlt : i < xs.size := by have := (List.getElem?_eq_some_iff.1 hi).1; simp at hl; omega
  refine snd_same m (v := xs[i]) (by simp [Instr.extract, hlt]) ?_
  exact hr i xs[i] (b, cs) (by simp [hlt]) hi

theorem snd_index_str (m : Mem k h w L F U) {t : TypeId} {u : Value} {b : ByteArray} {kk : IntKind} {j : Int} {c : UInt8} (hu : P.underlying t = some .string) (hx : RTV (SS k h L F w) U L w u (.v false [.prim (.string b)])) (hc : b.data.toList[j.toNat]? = some c) (h0 : 0 ≤ j) :
    Snd k h w L F U nid ((do pure (Next.value (← Instr.index t u (.int kk j))) : Sem Next).run P w) (.v false [.prim (.int .u8 c.toNat)]) [] := by
  obtain rfl := rep_prim hx
  have hc' : b[j.toNat]? = some c := by
    obtain ⟨hlt, e⟩ := List.getElem?_eq_some_iff.1 hc
    have hlt' : j.toNat < b.size := by simpa using hlt
    rw [getElem?_pos b j.toNat hlt']
    rw [← e]; rfl
  exact snd_same m (v := .int .u8 c.toNat) (by simp [Instr.index, asIntOf, run_underlying hu, h0, hc']) (rtv_prim rfl)

theorem snd_len (m : Mem k h w L F U) {t ty : TypeId} {u : Value} {tv : TV} {n : Nat} (hx : RTV (SS k h L F w) U L w u tv) (he : lenT P t tv = some n) :
    Snd k h w L F U nid ((do pure (Next.value (← Builtin.len_ #[t] ty #[u])) : Sem Next).run P w) (.v false [.prim (.int .i64 n)]) [] := by
  have sl : ∀ e a c, elemT P t = some e → u = .slice a n c → Snd k h w L F U nid ((do pure (Next.value (← Builtin.len_ #[t] ty #[u])) : Sem Next).run P w) (.v false [.prim (.int .i64 n)]) [] := by
    intro e a c h1 h2
    subst h2
    exact snd_same m (v := .int .i64 n) (by simp [Builtin.len_, run_underlying (elemT_some h1), goInt]) (rtv_prim rfl)
  unfold lenT at he
  split at he
  · split at he
    · rename_i hu
      obtain rfl := Option.some.inj he
      obtain rfl := rep_prim hx
      exact snd_same m (by simp [Builtin.len_, run_underlying hu, goInt]) (rtv_prim rfl)
    · cases he
  · obtain ⟨e, h1, h2⟩ := Option.map_eq_some_iff.1 he
    subst h2
    exact sl e _ _ h1 (rep_nilc hx)
  · rename_i o n' s' l
    obtain ⟨e, h1, h2⟩ := Option.map_eq_some_iff.1 he
    subst h2
    have : ∃ a c, u = .slice a n' c := by
      cases o with
      | false =>
        cases hx with
        | ro _ _ _ _ _ _ _ => exact ⟨_, _, rfl⟩
        | ro0 _ _ => exact ⟨_, _, rfl⟩
      | true =>
        have hx' : Rep (SS k h L F w) U L w [u] [.sl true n' s' l] [] := hx
        generalize hG : ([] : List Nat) = G at hx'
        cases hx' with
        | own _ _ _ _ _ _ _ _ => simp at hG
        | own0 _ _ => exact ⟨_, 0, rfl⟩
    obtain ⟨a, c, e2⟩ := this
    exact sl e a c h1 e2
  · rename_i id off n' s'
    obtain ⟨e, h1, h2⟩ := Option.map_eq_some_iff.1 he
    subst h2
    cases hx with
    | ref hU hW hn hz hnil => exact sl e _ _ h1 rfl
    | ref0 hU hp hnil => exact sl e _ _ h1 rfl
  · cases he

theorem snd_max (m : Mem k h w L F U) {tys : Array TypeId} {ty : TypeId} {u v : Value} {kk kk' : IntKind} {a b : Int} (hx : RTV (SS k h L F w) U L w u (.v false [.prim (.int kk a)])) (hy : RTV (SS k h L F w) U L w v (.v false [.prim (.int kk' b)])) :
    Snd k h w L F U nid ((do pure (Next.value (← Builtin.max_ tys ty #[u, v])) : Sem Next).run P w) (.v false [.prim (.int kk (if b > a then b else a))]) [] := by
  obtain rfl := rep_prim hx
  obtain rfl := rep_prim hy
  exact snd_same m (v := .int kk (if b > a then b else a)) (by simp [Builtin.max_, Builtin.max2]) (rtv_prim rfl)

theorem snd_min (m : Mem k h w L F U) {tys : Array TypeId} {ty : TypeId} {u v : Value} {kk kk' : IntKind} {a b : Int} (hx : RTV (SS k h L F w) U L w u (.v false [.prim (.int kk a)])) (hy : RTV (SS k h L F w) U L w v (.v false [.prim (.int kk' b)])) :
    Snd k h w L F U nid ((do pure (Next.value (← Builtin.min_ tys ty #[u, v])) : Sem Next).run P w) (.v false [.prim (.int kk (if b < a then b else a))]) [] := by
  obtain rfl := rep_prim hx
  obtain rfl := rep_prim hy
  exact snd_same m (v := .int kk (if b < a then b else a)) (by simp [Builtin.min_, Builtin.min2]) (rtv_prim rfl)

end
end

section
open Go Go.RowKit

section

variable {k : Base} {h : Nat → Option Node} {w : World} {L : Nat → Nat × Nat} {F : Nat → List Nat} {U : Nat → Prop} {nid : Nat} {P : Program}

theorem parts_fit {S U' : Nat → Prop} {L' : Nat → Nat × Nat} {w' : World} {ρ : Operand → Value} {ev : Operand → TV} (hev : ∀ x, RTV S U' L' w' (ρ x) (ev x)) (parts : Array (Nat × Operand)) :
    (parts.map fun (p : Nat × Operand) => (p.1, ρ p.2)).toList.length = (parts.toList.map fun p => (p.1, ev p.2)).length ∧
    ∀ (j : Nat) (p : Nat × Value) (q : Nat × TV), (parts.map fun (p : Nat × Operand) => (p.1, ρ p.2)).toList[j]? = some p → (parts.toList.map fun p => (p.1, ev p.2))[j]? = some q → p.1 = q.1 ∧ RTV S U' L' w' p.2 q.2 := by
  refine ⟨by simp, fun j p q hp hq => ?_⟩
  rw [Array.toList_map, List.getElem?_map] at hp
  rw [List.getElem?_map] at hq
  cases hj : parts.toList[j]? with
  | none => rw [hj] at hp; cases hp
  | some x =>
    rw [hj] at hp hq
    obtain rfl := Option.some.inj hp
    obtain rfl := Option.some.inj hq
    exact ⟨rfl, hev _⟩

theorem opt_fit {S U' : Nat → Prop} {L' : Nat → Nat × Nat} {w' : World} {ρ : Operand → Value} {ev : Operand → TV} (hev : ∀ x, RTV S U' L' w' (ρ x) (ev x)) (x : Option Operand) :
    (x.map ρ = none ∧ x.map ev = none) ∨ ∃ v t, x.map ρ = some v ∧ x.map ev = some t ∧ RTV S U' L' w' v t := by
  cases x with
  | none => exact .inl ⟨rfl, rfl⟩
  | some x => exact .inr ⟨_, _, rfl, rfl, hev x⟩

theorem call_sound (m : Mem k h w L F U) (hn : h nid = none) (hU : ¬ U nid) {ρ : Operand → Value} {ev : Operand → TV} (hev : ∀ x, RTV (SS k h L F w) U L w (ρ x) (ev x)) {b : Builtin} {args : Array Operand} {tys : Array TypeId} {ty : TypeId} {consts : Array Bool} {tv : TV} {l}
    (he : callT P h nid b tys.toList (args.toList.map ev) = some (tv, l)) : Snd k h w L F U nid ((builtin b tys ty consts (args.map ρ)).run P w) tv l := by
  unfold callT at he
  split at he
  · rename_i ts tx s x e1 e2
    obtain ⟨tl⟩ := tys; simp only at e1; subst e1
    obtain ⟨al⟩ := args
    match al, e2 with
    | [a1, a2], e2 =>
      simp only [List.map_cons, List.map_nil, List.cons.injEq, and_true] at e2
      obtain ⟨rfl, rfl⟩ := e2
      have := snd_append (ty := ty) m hn hU (hev a1) (hev a2) he
      simpa [builtin] using this
  · rename_i t x e1 e2
    obtain ⟨tl⟩ := tys; simp only at e1; subst e1
    obtain ⟨al⟩ := args
    match al, e2 with
    | [a1], e2 =>
      simp only [List.map_cons, List.map_nil, List.cons.injEq, and_true] at e2
      subst e2
      obtain ⟨n, h1, h2⟩ := Option.map_eq_some_iff.1 he
      obtain ⟨rfl, rfl⟩ := Prod.mk.inj h2
      have := snd_len (ty := ty) (nid := nid) m (hev a1) h1
      simpa [builtin] using this
  · rename_i kk a kk' b' e2
    obtain ⟨al⟩ := args
    rcases al with _ | ⟨a1, _ | ⟨a2, _ | ⟨a3, al⟩⟩⟩ <;> simp at e2
    obtain ⟨rfl, rfl⟩ := Prod.mk.inj (Option.some.inj he)
    have h1 := hev a1; have h2 := hev a2
    rw [e2.1] at h1; rw [e2.2] at h2
    have := snd_max (tys := tys) (ty := ty) (nid := nid) (P := P) m h1 h2
    simpa [builtin] using this
  · rename_i kk a kk' b' e2
    obtain ⟨al⟩ := args
    rcases al with _ | ⟨a1, _ | ⟨a2, _ | ⟨a3, al⟩⟩⟩ <;> simp at e2
    obtain ⟨rfl, rfl⟩ := Prod.mk.inj (Option.some.inj he)
    have h1 := hev a1; have h2 := hev a2
    rw [e2.1] at h1; rw [e2.2] at h2
    have := snd_min (tys := tys) (ty := ty) (nid := nid) (P := P) m h1 h2
    simpa [builtin] using this
  · cases he

set_option maxHeartbeats 1000000 in
theorem eff_sound (m : Mem k h w L F U) (hn : h nid = none) (hU : ¬ U nid) {ρ : Operand → Value} {ev : Operand → TV} (hev : ∀ x, RTV (SS k h L F w) U L w (ρ x) (ev x)) (o : Oper) {tv : TV} {l}
    (he : eff P h nid ev o.op = some (tv, l)) : Snd k h w L F U nid ((execOp ρ o).run P w) tv l := by
  obtain ⟨dst, op, ty, pos, after, guard⟩ := o
  have get : ∀ {x : Operand} {t : TV}, ev x = t → RTV (SS k h L F w) U L w (ρ x) t := fun {x t} e => e ▸ hev x
  cases op <;> simp only [eff] at he <;> try (cases he; done)
  case move x =>
    obtain ⟨rfl, rfl⟩ := Prod.mk.inj (Option.some.inj he)
    exact snd_same m (v := ρ x) rfl (hev x)
  case assign x =>
    obtain ⟨rfl, rfl⟩ := Prod.mk.inj (Option.some.inj he)
    exact snd_same m (v := ρ x) rfl (hev x)
  case pick c a b =>
    split at he
    · rename_i t e
      obtain ⟨rfl, rfl⟩ := Prod.mk.inj (Option.some.inj he)
      have hc := rep_prim (get e)
      cases t
      · exact snd_same m (v := ρ b) (by simp [execOp, hc, asBool]) (hev b)
      · exact snd_same m (v := ρ a) (by simp [execOp, hc, asBool]) (hev a)
    · cases he
  case alloc t =>
    obtain ⟨z, hz, e⟩ := Option.map_eq_some_iff.1 he
    obtain ⟨rfl, rfl⟩ := Prod.mk.inj e
    exact snd_alloc m hn hU hz
  case box t x =>
    split at he
    · rename_i b l e
      obtain ⟨rfl, rfl⟩ := Prod.mk.inj (Option.some.inj he)
      exact snd_box m hn hU (get e)
    · cases he
  case build t parts =>
    split at he
    · rename_i fs z hu hz
      split at he
      · rename_i hall
        obtain ⟨out, h1, h2⟩ := Option.map_eq_some_iff.1 he
        obtain ⟨rfl, rfl⟩ := Prod.mk.inj h2
        obtain ⟨p1, p2⟩ := parts_fit hev parts
        exact snd_build m hu hz (fun f hf => Option.isSome_iff_exists.1 (List.all_eq_true.1 hall f hf)) p1 p2 h1
      · cases he
    · cases he
  case buildSlice t n parts =>
    split at he
    · rename_i e hee
      split at he
      · rename_i z hz
        split at he
        · rename_i hc
          obtain ⟨out, h1, h2⟩ := Option.map_eq_some_iff.1 he
          obtain ⟨rfl, rfl⟩ := Prod.mk.inj h2
          obtain ⟨p1, p2⟩ := parts_fit hev parts
          exact snd_buildSlice m hn hU hee hz hc p1 p2 h1
        · cases he
      · cases he
    · cases he
  case load t a =>
    split at he
    · rename_i s r hs hr
      split at he
      · rename_i hrs
        split at he
        · rename_i id off e
          split at he
          · rename_i o' cs hid
            split at he
            · rename_i hc
              obtain ⟨rfl, rfl⟩ := Prod.mk.inj (Option.some.inj he)
              exact snd_load_ptr m (get e) hs hr hrs hid hc
            · cases he
          · cases he
        · rename_i l' e
          split at he
          · rename_i hc
            obtain ⟨rfl, rfl⟩ := Prod.mk.inj (Option.some.inj he)
            exact snd_load_rop m (get e) hs hr hrs hc
          · cases he
        · cases he
      · cases he
    · cases he
  case store t a x =>
    split at he
    · rename_i id off b l' e1 e2
      split at he
      · rename_i cs hid
        split at he
        · rename_i hc
          obtain ⟨rfl, rfl⟩ := Prod.mk.inj (Option.some.inj he)
          exact snd_store m (get e1) (get e2) hid hc
        · cases he
      · cases he
    · cases he
  case nilCheck x =>
    split at he
    · rename_i id off e
      obtain ⟨rfl, rfl⟩ := Prod.mk.inj (Option.some.inj he)
      have hx := get e
      have : ∃ a, ρ x = .pointer (some a) := by
        generalize ρ x = q at hx
        cases hx; exact ⟨_, rfl⟩
      obtain ⟨a, ea⟩ := this
      exact snd_same m (v := ρ x) (by simp [execOp, ea]) hx
    · rename_i l' e
      obtain ⟨rfl, rfl⟩ := Prod.mk.inj (Option.some.inj he)
      have hx := get e
      have : ∃ a, ρ x = .pointer (some a) := by
        generalize ρ x = q at hx
        cases hx; exact ⟨_, rfl⟩
      obtain ⟨a, ea⟩ := this
      exact snd_same m (v := ρ x) (by simp [execOp, ea]) hx
    · cases he
  case binOp op t x y yt =>
    split at he
    · rename_i a b e1 e2
      obtain ⟨r, h1, h2⟩ := Option.map_eq_some_iff.1 he
      obtain ⟨rfl, rfl⟩ := Prod.mk.inj h2
      exact snd_bin m (get e1) (get e2) h1
    · rename_i l1 l2 e1 e2
      split at he
      · obtain ⟨r, h1, h2⟩ := Option.map_eq_some_iff.1 he
        obtain ⟨rfl, rfl⟩ := Prod.mk.inj h2
        exact (snd_eqStruct m (get e1) (get e2) h1).1 rfl
      · obtain ⟨r, h1, h2⟩ := Option.map_eq_some_iff.1 he
        obtain ⟨rfl, rfl⟩ := Prod.mk.inj h2
        exact (snd_eqStruct m (get e1) (get e2) h1).2 rfl
      · cases he
    · cases he
  case unOp op t x =>
    split at he
    · rename_i a e
      obtain ⟨r, h1, h2⟩ := Option.map_eq_some_iff.1 he
      obtain ⟨rfl, rfl⟩ := Prod.mk.inj h2
      exact snd_un m (get e) h1
    · cases he
  case convert s d x =>
    split at he
    · rename_i hs hd e
      obtain ⟨rfl, rfl⟩ := Prod.mk.inj (Option.some.inj he)
      exact snd_conv_int m hs hd (get e)
    · rename_i b hs hd e
      obtain ⟨rfl, rfl⟩ := Prod.mk.inj (Option.some.inj he)
      exact snd_conv_str m hs hd (get e)
    · rename_i e' b hs hd e
      split at he
      · rename_i hu8
        obtain ⟨rfl, rfl⟩ := Prod.mk.inj (Option.some.inj he)
        exact snd_conv_bytes m hs hd hu8 (get e)
      · cases he
    · rename_i e' hs hd
      split at he
      · rename_i n N c hu8 hsrc ex
        have key : ∀ (bs : List UInt8), (∀ v, c ≠ .prim v) → strOf N = some bs → Snd k h w L F U nid ((do pure (Next.value (← convert s d (ρ x))) : Sem Next).run P w) (.v false [.prim (.string ⟨bs.toArray⟩)]) [] := fun bs hp hN =>
          snd_conv_text m hs hd hu8 (get ex) (by rw [← ex]; exact hsrc) (fun v e => hp v (by simpa using e)) hN
        split at he
        · cases he
        · rename_i hp
          obtain ⟨bs, h1, h2⟩ := Option.map_eq_some_iff.1 he
          obtain ⟨rfl, rfl⟩ := Prod.mk.inj h2
          exact key bs (fun v e => hp v e) h1
      · cases he
    · cases he
  case makeSlice t l' c =>
    split at he
    · rename_i k1 n k2 n' e e1 e2 hee
      split at he
      · rename_i i z hi hz
        split at he
        · rename_i hc
          obtain ⟨rfl, rfl⟩ := Prod.mk.inj (Option.some.inj he)
          obtain ⟨rfl, h0, h1, h2, h3⟩ := hc
          have q1 := rep_prim (get e1)
          have q2 := rep_prim (get e2)
          have := snd_makeSlice (kl := k1) (kc := k2) m hn hU hee hi hz h0 h1 h2 h3
          rw [← q1, ← q2] at this
          exact this
        · cases he
      · cases he
    · cases he
  case slice t x lo hi mx =>
    cases mx with
    | some _ => simp at he
    | none =>
      simp only at he
      split at he
      · rename_i b e
        split at he
        · rename_i a1 a2 hu h1 h2
          split at he
          · rename_i hc
            obtain ⟨rfl, rfl⟩ := Prod.mk.inj (Option.some.inj he)
            exact snd_slice_str m (opt_fit hev lo) (opt_fit hev hi) hu (get e) h1 h2 hc.1 hc.2
          · cases he
        · cases he
      · rename_i c e
        split at he
        · rename_i e' hee
          split at he
          · rename_i s n hs hnn
            split at he
            · rename_i a1 a2 h1 h2
              obtain ⟨c', h3, h4⟩ := Option.map_eq_some_iff.1 he
              obtain ⟨rfl, rfl⟩ := Prod.mk.inj h4
              exact snd_slice m (opt_fit hev lo) (opt_fit hev hi) hee hs (get e) hnn h1 h2 h3
            · cases he
          · cases he
        · cases he
      · cases he
  case fieldAddr s x f =>
    split at he
    · rename_i fd hf
      split at he
      · rename_i q hs
        split at he
        · rename_i id off e
          obtain ⟨rfl, rfl⟩ := Prod.mk.inj (Option.some.inj he)
          exact snd_field_ptr m (get e) hf hs
        · rename_i l' e
          obtain ⟨rfl, rfl⟩ := Prod.mk.inj (Option.some.inj he)
          exact snd_field_rop m (get e) hf hs
        · cases he
      · cases he
    · cases he
  case field s x f =>
    split at he
    · rename_i fd hf
      split at he
      · rename_i n r l' hs hr e
        split at he
        · rename_i hc
          obtain ⟨rfl, rfl⟩ := Prod.mk.inj (Option.some.inj he)
          exact snd_field m hf hs hr (get e) hc
        · cases he
      · cases he
    · cases he
  case indexAddr t x i =>
    split at he
    · rename_i e' hee
      split at he
      · rename_i s kk j hs ei
        have qi := rep_prim (get ei)
        split at he
        · rename_i id off n s' e
          split at he
          · rename_i hc
            obtain ⟨rfl, rfl⟩ := Prod.mk.inj (Option.some.inj he)
            obtain ⟨h0, h1, rfl⟩ := hc
            have := snd_index_ref (kk := kk) m (get e) hee hs h0 h1 (nid := nid)
            rw [← qi] at this
            exact this
          · cases he
        · rename_i n s' l' e
          split at he
          · rename_i hc
            obtain ⟨rfl, rfl⟩ := Prod.mk.inj (Option.some.inj he)
            obtain ⟨h0, h1, rfl⟩ := hc
            have := snd_index_ro (kk := kk) m (get e) hee hs h0 h1 (nid := nid)
            rw [← qi] at this
            exact this
          · cases he
        · cases he
      · cases he
    · cases he
  case index t x i =>
    split at he
    · rename_i b kk j hu ex ei
      split at he
      · rename_i c hc
        split at he
        · rename_i h0
          obtain ⟨rfl, rfl⟩ := Prod.mk.inj (Option.some.inj he)
          have qi := rep_prim (get ei)
          have := snd_index_str (kk := kk) m hu (get ex) hc h0 (nid := nid)
          rw [← qi] at this
          exact this
        · cases he
      · cases he
    · cases he
  case extract x i =>
    split at he
    · rename_i l' e
      split at he
      · rename_i b cs hi
        obtain ⟨rfl, rfl⟩ := Prod.mk.inj (Option.some.inj he)
        exact snd_extract m (get e) hi
      · cases he
    · cases he
  case call c =>
    obtain ⟨callee, args, tys⟩ := c
    cases callee with
    | value _ => simp at he
    | invoke _ _ => simp at he
    | builtin b =>
      simp only at he
      simp [execOp, resolve, invoke]
      exact call_sound (ty := ty) m hn hU hev he

end
end

section
open Go Go.RowKit

inductive Out where
  | norm
  | exit (n : Nat)
  | ret
  deriving DecidableEq, Inhabited

/-- What a call is handed: a value that it only reads; or a node of its own (`p`: by a pointer to it; else a slice of `n` elements of `s` cells); `ex`: behind the arguments, a node that a struct among them leads to. -/
inductive Arg where
  | val (b : Bool) (l : List Cell)
  | own (p : Bool) (n s : Nat) (l : List Cell)
  | ex (l : List Cell)
  deriving Inhabited

def setT (t : List TV) (d : Option Nat) (v : TV) : List TV :=
  match d with
  | some d => t.set d v
  | none => t

def setH (h : List (Option Node)) (i : Nat) (n : Option Node) : List (Option Node) :=
  if i < h.length then h.set i n else h ++ List.replicate (i - h.length) none ++ [n]

abbrev Upds := List (Nat × Option Node)

def St.app (σ : St) (d : Option Nat) (r : TV) (l : Upds) : St := ⟨setT σ.t d r, l.foldl (fun h p => setH h p.1 p.2) σ.h⟩

/-- Is an operation behind a guard to be done? -/
def guardT (ops : Array Oper) (t : List TV) (o : Oper) : Option Bool :=
  match o.guard with
  | none => some true
  | some (j, want) => match (ops[j]?).bind (·.dst) with
    | some d => match t.getD d .undef with
      | .v false [.prim (.bool b)] => some (b == want)
      | .tup [] => some false
      | _ => none
    | none => none

/-- What a callee sees of the cells of a value that it only reads; which nodes it so sees. -/
def snapC (h : Nat → Option Node) : Cell → Option (Cell × List Nat)
  | .prim v => some (.prim v, [])
  | .nil => some (.nil, [])
  | .sl false n s l => some (.sl false n s l, [])
  | .sl true 0 s [] => some (.sl false 0 s [], [])
  | .ref id off n s => match h id with
    | some (o, cs) => if off + n * s ≤ cs.length ∧ ((cs.drop off).take (n * s)).all Cell.shal = true then
        some (.sl false n s (roifyL ((cs.drop off).take (n * s))), if o then [id] else []) else none
    | none => none
  | _ => none

/-- `zs`: the element sizes of the nil slices within, as they come. -/
def snapL (h : Nat → Option Node) : List Nat → List Cell → Option (List Cell × List Nat)
  | _, [] => some ([], [])
  | s :: zs, .nil :: cs => match snapL h zs cs with
    | some (cs', j) => some (.sl false 0 s [] :: cs', j)
    | none => none
  | zs, c :: cs => match snapC h c, snapL h zs cs with
    | some (c', i), some (cs', j) => some (c' :: cs', i ++ j)
    | _, _ => none

/-- How an argument is handed: to be read (with the element sizes of nil slices within), or to be written (nil: as a new slice without elements, of this element size). -/
inductive Mode where
  | val (zs : List Nat)
  | own (s : Nat)
  | str
  deriving Inhabited

/-- One argument: as it is handed; the nodes that are seen; the node that is handed on. -/
def argT (h : Nat → Option Node) : Mode → TV → Option (Arg × List Nat × Option Nat)
  | .val zs, .v b l => match snapL h zs l with
    | some (l', i) => some (.val b l', i, none)
    | none => none
  | .own s, .v false [.nil] => some (.own false 0 s [], [], none)
  | .own _, .v false [.ptr id off] => match h id with
    | some (true, cs) => if off = 0 ∧ cs.all Cell.shal = true then some (.own true 0 0 cs, [], some id) else none
    | _ => none
  | .own _, .v false [.ref id off n s] => match h id with
    | some (true, cs) => if off = 0 ∧ cs.length = n * s ∧ cs.all Cell.shal = true then some (.own false n s cs, [], some id) else none
    | _ => none
  | _, _ => none

/-- A struct that is handed on with the slices within: the callee has their nodes from `k` on. -/
def giveL (h : Nat → Option Node) : Nat → List Cell → Option (List Cell × List (Nat × List Cell))
  | _, [] => some ([], [])
  | k, .prim v :: l => match giveL h k l with
    | some (l', e) => some (.prim v :: l', e)
    | none => none
  | k, .nil :: l => match giveL h k l with
    | some (l', e) => some (.nil :: l', e)
    | none => none
  | k, .sl false n s x :: l => match giveL h k l with
    | some (l', e) => some (.sl false n s x :: l', e)
    | none => none
  | k, .ref id off n s :: l => match h id with
    | some (true, cs) => if off = 0 ∧ cs.length = n * s ∧ cs.all Cell.shal = true then
        match giveL h (k + 1) l with
        | some (l', e) => some (.ref k 0 n s :: l', (id, cs) :: e)
        | none => none
      else none
    | _ => none
  | _, _ => none

def argsG (h : Nat → Option Node) : Nat → List Mode → List TV → Option (List Arg × List Nat × List (Option Nat) × List (Nat × List Cell))
  | _, [], [] => some ([], [], [], [])
  | k, .str :: ms, .v b l :: xs => match giveL h k l with
    | some (l', e) => match argsG h (k + e.length) ms xs with
      | some (as, j, os, es) => some (.val b l' :: as, j, none :: os, e ++ es)
      | none => none
    | none => none
  | k, m :: ms, x :: xs => match argT h m x, argsG h k ms xs with
    | some (a, i, o), some (as, j, os, es) => some (a :: as, i ++ j, o :: os, es)
    | _, _ => none
  | k, [], x :: xs => match argT h (.val []) x, argsG h k [] xs with
    | some (a, i, o), some (as, j, os, es) => some (a :: as, i ++ j, o :: os, es)
    | _, _ => none
  | _, _, _ => none

def argsT (h : Nat → Option Node) (ms : List Mode) (xs : List TV) : Option (List Arg × List Nat × List (Option Nat)) :=
  match argsG h xs.length ms xs with
  | some (as, sn, ow, es) => some (as ++ es.map (fun e => .ex e.2), sn, ow ++ es.map (fun e => some e.1))
  | none => none

def noEx (as : List Arg) : Bool := as.all fun a => match a with | .ex _ => false | _ => true

/-- The cells of results, as slots hold them: own slices become nodes from `nid` on. -/
def placeL (nid : Nat) : List Cell → List Cell
  | [] => []
  | .sl true n s _ :: cs => .ref nid 0 n s :: placeL (nid + 1) cs
  | .op _ :: cs => .ptr nid 0 :: placeL (nid + 1) cs
  | c :: cs => c :: placeL nid cs

def ownsL : List Cell → List (List Cell)
  | [] => []
  | .sl true _ _ l :: cs => l :: ownsL cs
  | .op l :: cs => l :: ownsL cs
  | _ :: cs => ownsL cs

def placeV (nid : Nat) : List (Bool × List Cell) → List (Bool × List Cell)
  | [] => []
  | (b, l) :: vs => (b, placeL nid l) :: placeV (nid + (ownsL l).length) vs

def ownsV : List (Bool × List Cell) → List (List Cell)
  | [] => []
  | (_, l) :: vs => ownsL l ++ ownsV vs

def newU (nid : Nat) : List (List Cell) → Upds
  | [] => []
  | l :: ls => (nid, some (true, l)) :: newU (nid + 1) ls

def backU : List (Option Nat) → List (Option (List Cell)) → Upds
  | [], _ => []
  | some id :: os, o :: outs => (id, o.map fun c => (true, c)) :: backU os outs
  | some id :: os, [] => (id, none) :: backU os []
  | none :: os, _ :: outs => backU os outs
  | none :: os, [] => backU os []

def resTV : List (Bool × List Cell) → TV
  | [(b, l)] => .v b l
  | vs => .tup vs

mutual
/-- Nothing of it is seen by somebody else. -/
def Cell.pure : Cell → Bool
  | .prim _ | .nil => true
  | .sl o _ _ l => if o then pureL l else l.isEmpty
  | .op l => pureL l
  | _ => false
def pureL : List Cell → Bool
  | [] => true
  | c :: l => c.pure && pureL l
end

def pureV (vals : List (Bool × List Cell)) (outs : List (Option (List Cell))) : Bool :=
  vals.all (fun p => pureL p.2) && outs.all fun o => match o with | some l => pureL l | none => true

def enterOK (P : Program) (f : FuncId) : Bool :=
  match P.funcs[f]? with
  | some fn => fn.name != "runtime.NumGoroutine" && fn.body.isSome
  | none => false

/-! ### Beginning and end of a call -/

def Arg.tv (j : Nat) : Arg → TV
  | .val b l => .v b l
  | .own true _ _ _ => .v false [.ptr j 0]
  | .own false n s _ => .v false [.ref j 0 n s]
  | .ex _ => .undef

def Arg.node : Arg → Option Node
  | .val _ _ => none
  | .own _ _ _ l => some (true, l)
  | .ex l => some (true, l)

def argTVs : Nat → List Arg → List TV
  | _, [] => []
  | j, a :: as => a.tv j :: argTVs (j + 1) as

def initS (as : List Arg) (ntmps : Nat) : St := ⟨argTVs 0 as ++ List.replicate (ntmps - as.length) .undef, as.map Arg.node⟩

def resVarT (P : Program) (σ : St) : ResultVar → Option (Bool × List Cell)
  | .tmp t => match σ.tv t with
    | .v b l => some (b, l)
    | _ => none
  | .cell a ty => match σ.tv a, szT P ty, rowT P ty with
    | .v false [.ptr id off], some s, some r => match σ.nd id with
      | some (_, cs) => if (r = true ∨ s = 1) ∧ off + s ≤ cs.length ∧ ((cs.drop off).take s).all (fun c => !c.own?) = true then some (r, (cs.drop off).take s) else none
      | none => none
    | _, _, _ => none

def resVarsT (P : Program) (σ : St) : List ResultVar → Option (List (Bool × List Cell))
  | [] => some []
  | r :: rs => match resVarT P σ r, resVarsT P σ rs with
    | some v, some vs => some (v :: vs)
    | _, _ => none

def exC (h : Nat → Option Node) : Cell → Option (Cell × List Nat)
  | .prim v => some (.prim v, [])
  | .nil => some (.nil, [])
  | .sl false n s l => some (.sl false n s l, [])
  | .sl true 0 s [] => some (.sl true 0 s [], [])
  | .ref id off n s => match h id with
    | some (true, cs) => if off = 0 ∧ cs.length = n * s ∧ s ≠ 0 ∧ cs.all Cell.shal = true then some (.sl true n s cs, [id]) else none
    | some (false, cs) => if off + n * s ≤ cs.length ∧ ((cs.drop off).take (n * s)).all Cell.shal = true then some (.sl false n s ((cs.drop off).take (n * s)), []) else none
    | none => none
  | .ptr id off => match h id with
    | some (true, cs) => if off = 0 ∧ cs.isEmpty = false ∧ cs.all Cell.shal = true then some (.op cs, [id]) else none
    | _ => none
  | _ => none

def exL (h : Nat → Option Node) : List Nat → List Cell → Option (List Cell × List Nat)
  | _, [] => some ([], [])
  | s :: zs, .nil :: cs => match exL h zs cs with
    | some (cs', j) => some (.sl true 0 s [] :: cs', j)
    | none => none
  | zs, c :: cs => match exC h c, exL h zs cs with
    | some (c', i), some (cs', j) => some (c' :: cs', i ++ j)
    | _, _ => none

/-- `zs`: the element sizes of the nil slices within each result. -/
def exV (h : Nat → Option Node) : List (List Nat) → List (Bool × List Cell) → Option (List (Bool × List Cell) × List Nat)
  | _, [] => some ([], [])
  | zs, (b, l) :: vs => match exL h (zs.headD []) l, exV h zs.tail vs with
    | some (l', i), some (vs', j) => some ((b, l') :: vs', i ++ j)
    | _, _ => none

def outT (h : Nat → Option Node) (used : List Nat) (j : Nat) : Arg → Option (List Cell)
  | .val _ _ => none
  | _ => if used.contains j then none else
    match h j with
    | some (true, cs) => if cs.all Cell.shal = true then some cs else none
    | _ => none

def outsT (h : Nat → Option Node) (used : List Nat) : Nat → List Arg → List (Option (List Cell))
  | _, [] => []
  | j, a :: as => outT h used j a :: outsT h used (j + 1) as

def finT (P : Program) (fn : Func) (zs : List (List Nat)) (σ : St) (as : List Arg) : Option (List (Bool × List Cell) × List (Option (List Cell))) :=
  match resVarsT P σ fn.results.toList with
  | some rv => match exV σ.nd zs rv with
    | some (vals, used) => if used.Nodup then some (vals, outsT σ.nd used 0 as) else none
    | none => none
  | none => none

/-! ### How a T state stands for the machine's -/

structure RSb (k : Base) (n : Nat) (L0 : Nat → Nat × Nat) (bd : Nat → Prop) (σ : St) (a : Act) (w : World) : Prop where
  ex : ∃ L F U, Mem k σ.nd w L F U ∧ (∀ i, RTV (SS k σ.nd L F w) U L w (a.tmps.getD i undef) (σ.tv i)) ∧ (∀ i, U i → bd i) ∧ (∀ i, i < n → U i ∧ L i = L0 i)
  len : σ.t.length ≤ a.tmps.size
  defers : a.defers = []

def RS (k : Base) (n : Nat) (L0 : Nat → Nat × Nat) (σ : St) (a : Act) (w : World) : Prop := RSb k n L0 (· < σ.h.length) σ a w

/-- A step that the machine does not notice. -/
def Gh (n : Nat) (σ σ' : St) : Prop := ∀ k L0 a w, RS k n L0 σ a w → RS k n L0 σ' a w

/-! ### Which order -/

def tmpsR (ops : Array Oper) (o : Oper) : List Nat :=
  (o.op.operands.toList.filterMap fun | .tmp t => some t | _ => none) ++ (match o.guard with | some (g, _) => ((ops[g]?).bind (·.dst)).toList | none => [])

def Cell.id? : Cell → List Nat
  | .ref id _ _ _ => [id]
  | .ptr id _ => [id]
  | _ => []

def TV.ids : TV → List Nat
  | .v _ l => l.flatMap Cell.id?
  | .tup l => l.flatMap fun p => p.2.flatMap Cell.id?
  | .undef => []

/-- The operands whose nodes an operation looks into. -/
def opN : Op → List Operand
  | .move _ => []
  | op => op.operands.toList

def nodesR (σ : St) (o : Oper) : List Nat := (opN o.op).flatMap fun x => (evT σ.t x).ids

/-- The states of a region, operation by operation. -/
def statesT (ops : Array Oper) : St → List (TV × Upds) → Nat → List St
  | _, [], _ => []
  | σ, (r, l) :: us, i => σ :: statesT ops (σ.app ((ops[i]?).bind (·.dst)) r l) us (i + 1)

structure FP where
  tr : List Nat
  tw : List Nat
  nr : List Nat
  nw : List Nat

def fpT (ops : Array Oper) (σ : St) (i : Nat) (u : TV × Upds) : FP :=
  match ops[i]? with
  | some o => ⟨tmpsR ops o, o.dst.toList, nodesR σ o, u.2.map (·.1)⟩
  | none => ⟨[], [], [], []⟩

def FP.apart (a b : FP) : Bool :=
  a.tw.all (fun x => !b.tr.contains x && !b.tw.contains x) && a.tr.all (fun x => !b.tw.contains x) &&
  a.nw.all (fun x => !b.nr.contains x && !b.nw.contains x) && a.nr.all (fun x => !b.nw.contains x)

/-- `j` surely comes behind `i` (looked for `n` steps deep). -/
def befT (ops : Array Oper) : Nat → Nat → Nat → Bool
  | 0, _, _ => false
  | n + 1, i, j => match ops[j]? with
    | some o => o.after.toList.any (fun e => Region.binds .any e && e.on == i) || o.after.toList.any (fun e => Region.binds .any e && befT ops n i e.on)
    | none => false

def fpsT (ops : Array Oper) (σ : St) (us : List (TV × Upds)) : List FP :=
  (List.range us.length).map fun i => fpT ops ((statesT ops σ us 0).getD i ⟨[], []⟩) i (us.getD i (.undef, []))

def orderOK (ops : Array Oper) (depth : Nat) (fps : List FP) : Bool :=
  (List.range fps.length).all fun j => (List.range j).all fun i => (fps.getD i ⟨[], [], [], []⟩).apart (fps.getD j ⟨[], [], [], []⟩) || befT ops depth i j

/-- Fresh nodes are an operation's own, or of one that surely came before. -/
def idsOK (ops : Array Oper) (depth B : Nat) (us : List (TV × Upds)) : Bool :=
  us.zipIdx.all fun p => p.1.2.all fun q => decide (q.1 < B) || (q.1 - B) / 16 == p.2 || befT ops depth ((q.1 - B) / 16) p.2

def afterOK (ops : Array Oper) : Bool :=
  (List.range ops.size).all fun i => match ops[i]? with
    | some o => o.after.toList.all fun e => !Region.binds .any e || decide (e.on < i)
    | none => true

/-! ### What runs to what -/

inductive J where
  | op (nid : Nat) (ops : Array Oper) (i : Nat) (σ : St) (r : TV) (l : Upds)
  | ops (base : Option Nat) (ops : Array Oper) (is : List Nat) (σ σ' : St) (us : List (TV × Upds))
  | reg (n : Nat) (ops : Array Oper) (is : List Nat) (σ σ' : St)
  | code (n : Nat) (c : Code) (σ : St) (out : Out) (σ' : St)
  | loop (n : Nat) (c : Code) (σ : St) (out : Out) (σ' : St)
  | call (f : FuncId) (as : List Arg) (vals : List (Bool × List Cell)) (outs : List (Option (List Cell)))

def nidOf (base : Option Nat) (σ : St) (i : Nat) : Nat :=
  match base with
  | some b => b + 16 * i
  | none => σ.h.length

def outBlock (id : Nat) : Out → Out
  | .exit n => if n = id then .norm else .exit n
  | o => o

inductive D (P : Program) (X : FuncId → List Arg → List (Bool × List Cell) → List (Option (List Cell)) → Prop) : J → Prop
  | opSkip {nid ops i σ o} : ops[i]? = some o → guardT ops σ.t o = some false → D P X (.op nid ops i σ (.tup []) [])
  | opEff {nid ops i σ o r l} : ops[i]? = some o → guardT ops σ.t o = some true → eff P σ.nd nid (evT σ.t) o.op = some (r, l) → D P X (.op nid ops i σ r l)
  | opCall {nid ops i σ o f xs tys ms as sn ow vals outs} : ops[i]? = some o → guardT ops σ.t o = some true → o.op = .call ⟨.value (.func f), xs, tys⟩ → enterOK P f = true →
      argsT σ.nd ms (xs.toList.map (evT σ.t)) = some (as, sn, ow) → (ow.filterMap id).Nodup → (∀ x ∈ sn, some x ∉ ow) →
      D P X (.call f as vals outs) → (sn = [] ∨ pureV vals outs = true) → (ownsV vals).length ≤ 16 →
      D P X (.op nid ops i σ (resTV (placeV nid vals)) (backU ow outs ++ newU nid (ownsV vals)))
  | opsNil {base ops σ} : D P X (.ops base ops [] σ σ [])
  | opsCons {base ops i is σ r l σ' us} : D P X (.op (nidOf base σ i) ops i σ r l) → D P X (.ops base ops is (σ.app ((ops[i]?).bind (·.dst)) r l) σ' us) → D P X (.ops base ops (i :: is) σ σ' ((r, l) :: us))
  | skip {n σ} : D P X (.code n .skip σ .norm σ)
  | ret {n σ} : D P X (.code n .ret σ .ret σ)
  | exit {n m σ} : D P X (.code n (.exit m) σ (.exit m) σ)
  | regNil {n ops σ} : D P X (.reg n ops [] σ σ)
  | regCons {n ops i is σ r l σ'} : D P X (.op σ.h.length ops i σ r l) → D P X (.reg n ops is (σ.app ((ops[i]?).bind (·.dst)) r l) σ') → D P X (.reg n ops (i :: is) σ σ')
  | regGh {n ops is σ σ1 σ'} : Gh n σ σ1 → D P X (.reg n ops is σ1 σ') → D P X (.reg n ops is σ σ')
  | region {n id ops σ σ'} : D P X (.reg n ops (List.range ops.size) σ σ') → D P X (.code n (.region id ops false) σ .norm σ')
  | draws {n id ops σ σ' us} (depth : Nat) : D P X (.ops (some σ.h.length) ops (List.range ops.size) σ σ' us) → orderOK ops depth (fpsT ops σ us) = true → idsOK ops depth σ.h.length us = true → afterOK ops = true → D P X (.code n (.region id ops true) σ .norm σ')
  | seq {n a b σ σ' out σ''} : D P X (.code n a σ .norm σ') → D P X (.code n b σ' out σ'') → D P X (.code n (.seq a b) σ out σ'')
  | seqOut {n a b σ out σ'} : D P X (.code n a σ out σ') → out ≠ .norm → D P X (.code n (.seq a b) σ out σ')
  | cond {n c a b σ t out σ'} : evT σ.t c = .v false [.prim (.bool t)] → D P X (.code n (if t then a else b) σ out σ') → D P X (.code n (.cond c a b) σ out σ')
  | block {n id c σ out σ'} : D P X (.code n c σ out σ') → D P X (.code n (.block id c) σ (outBlock id out) σ')
  | loop {n c σ out σ'} : D P X (.loop n c σ out σ') → D P X (.code n (.loop c) σ out σ')
  | loopGo {n c σ σ' out σ''} : D P X (.code n c σ .norm σ') → D P X (.loop n c σ' out σ'') → D P X (.loop n c σ out σ'')
  | loopEnd {n c σ out σ'} : D P X (.code n c σ out σ') → out ≠ .norm → D P X (.loop n c σ out σ')
  | ghost {n c σ σ' out σ''} : Gh n σ σ' → D P X (.code n c σ' out σ'') → D P X (.code n c σ out σ'')
  | ghostL {n c σ σ' out σ''} : Gh n σ σ' → D P X (.loop n c σ' out σ'') → D P X (.loop n c σ out σ'')
  | ghostE {n c σ out σ' σ''} : D P X (.code n c σ out σ') → Gh n σ' σ'' → D P X (.code n c σ out σ'')
  | call {f fn c as out σ vals outs} (zs : List (List Nat)) : P.funcs[f]? = some fn → fn.body = some c → (noEx as || Nat.ble as.length fn.ntmps) = true → D P X (.code as.length c (initS as fn.ntmps) out σ) → (out = .norm ∨ out = .ret) → finT P fn zs σ as = some (vals, outs) → D P X (.call f as vals outs)
  | ext {f as vals outs} : X f as vals outs → D P X (.call f as vals outs)
end

section
open Go Go.RowKit

def ndOf (h : List (Option Node)) (i : Nat) : Option Node := (h[i]?).join

theorem nd_eq (σ : St) : σ.nd = ndOf σ.h := rfl

theorem ndOf_setH (h : List (Option Node)) (i : Nat) (n : Option Node) : ndOf (setH h i n) = upd (ndOf h) i n := by
  funext j
  unfold ndOf setH upd
  by_cases hi : i < h.length
  · rw [if_pos hi, List.getElem?_set]
    by_cases e : i = j
    · subst e; simp [hi]
    · rw [if_neg e, if_neg (fun h => e h.symm)]
  · rw [if_neg hi]
    by_cases e : j = i
    · subst e
      rw [if_pos rfl, List.getElem?_append_right (by simp; omega)]
      simp [show j - (h.length + (j - h.length)) = 0 by omega]
    · rw [if_neg e]
      by_cases h1 : j < h.length
      · rw [List.append_assoc, List.getElem?_append_left h1]
      · show _ = (h[j]?).join
        rw [List.getElem?_eq_none (l := h) (i := j) (by omega)]
        by_cases h2 : j < i
        · rw [List.getElem?_append_left (by simp; omega), List.getElem?_append_right (by omega), List.getElem?_replicate, if_pos (by omega)]; rfl
        · rw [List.getElem?_eq_none (by simp; omega)]

theorem ndOf_foldl : ∀ (l : Upds) (h : List (Option Node)), ndOf (l.foldl (fun h p => setH h p.1 p.2) h) = ups (ndOf h) l
  | [], _ => rfl
  | p :: l, h => by rw [List.foldl_cons, ndOf_foldl l, ndOf_setH]; rfl

theorem nd_app (σ : St) (d : Option Nat) (r : TV) (l : Upds) : (σ.app d r l).nd = ups σ.nd l := ndOf_foldl l σ.h

theorem setH_length (h : List (Option Node)) (i : Nat) (n : Option Node) : (setH h i n).length = max h.length (i + 1) := by
  unfold setH
  split
  · simp; omega
  · simp; omega

theorem foldl_length : ∀ (l : Upds) (h : List (Option Node)), h.length ≤ (l.foldl (fun h p => setH h p.1 p.2) h).length ∧ ∀ p ∈ l, p.1 < (l.foldl (fun h p => setH h p.1 p.2) h).length
  | [], h => ⟨Nat.le_refl _, by simp⟩
  | p :: l, h => by
    obtain ⟨h1, h2⟩ := foldl_length l (setH h p.1 p.2)
    have h3 := setH_length h p.1 p.2
    refine ⟨by rw [List.foldl_cons]; omega, fun q hq => ?_⟩
    rw [List.foldl_cons]
    rcases List.mem_cons.1 hq with rfl | hq
    · omega
    · exact h2 q hq

theorem nd_lt {σ : St} {i : Nat} {nd : Node} (h : σ.nd i = some nd) : i < σ.h.length := by
  rcases Nat.lt_or_ge i σ.h.length with h1 | h1
  · exact h1
  · rw [nd_eq] at h; unfold ndOf at h; rw [List.getElem?_eq_none h1] at h; cases h

theorem nd_none {σ : St} {i : Nat} (h : σ.h.length ≤ i) : σ.nd i = none := by
  rw [nd_eq]; unfold ndOf; rw [List.getElem?_eq_none h]; rfl

theorem tv_app (σ : St) (d : Option Nat) (r : TV) (l : Upds) (i : Nat) : (σ.app d r l).tv i = σ.tv i ∨ (d = some i ∧ (σ.app d r l).tv i = r) := by
  unfold St.app St.tv setT
  cases d with
  | none => exact .inl rfl
  | some d =>
    by_cases e : d = i
    · subst e
      by_cases hl : d < σ.t.length
      · exact .inr ⟨rfl, by simp [List.getD, hl]⟩
      · exact .inl (by show (σ.t.set d r).getD d _ = _; rw [List.set_eq_of_length_le (by omega)])
    · refine .inl ?_
      simp only [List.getD]
      rw [List.getElem?_set_ne e]

theorem tv_app_len (σ : St) (d : Option Nat) (r : TV) (l : Upds) : (σ.app d r l).t.length = σ.t.length := by
  unfold St.app setT
  cases d <;> simp

/-- A value put into a slot, beside what T puts there. -/
theorem put_rtv {S U : Nat → Prop} {L : Nat → Nat × Nat} {w : World} {σ : St} {a : Act} {d : Option Nat} {v : Value} {r : TV} {l : Upds} (hl : σ.t.length ≤ a.tmps.size)
    (ht : ∀ i, RTV S U L w (a.tmps.getD i undef) (σ.tv i)) (hv : RTV S U L w v r) :
    (∀ i, RTV S U L w ((a.put d v).tmps.getD i undef) ((σ.app d r l).tv i)) ∧ (σ.app d r l).t.length ≤ (a.put d v).tmps.size ∧ (a.put d v).defers = a.defers := by
  refine ⟨fun i => ?_, ?_, ?_⟩
  · cases d with
    | none => exact ht i
    | some d =>
      by_cases e : d = i
      · subst e
        by_cases hd : d < a.tmps.size
        · have e1 : (a.put (some d) v).tmps.getD d undef = v := by simp [Act.put, hd]
          rw [e1]
          rcases tv_app σ (some d) r l d with h1 | ⟨_, h1⟩
          · rw [h1]
            have : (σ.app (some d) r l).tv d = r ∨ σ.tv d = .undef := by
              by_cases hs : d < σ.t.length
              · left; simp [St.app, St.tv, setT, List.getD, hs]
              · right; simp [St.tv, List.getD, List.getElem?_eq_none (show σ.t.length ≤ d by omega)]
            rcases this with h2 | h2
            · rw [← h1, h2]; exact hv
            · rw [h2]; trivial
          · rw [h1]; exact hv
        · have : (σ.app (some d) r l).tv d = .undef := by
            unfold St.app St.tv setT
            simp only [List.getD]
            rw [List.getElem?_eq_none (by simp; omega)]; rfl
          rw [this]; trivial
      · have e1 : (a.put (some d) v).tmps.getD i undef = a.tmps.getD i undef := by
          simp only [Act.put, Array.getD_eq_getD_getElem?]
          rw [Array.getElem?_setIfInBounds_ne e]
        rw [e1]
        rcases tv_app σ (some d) r l i with h1 | ⟨h0, _⟩
        · rw [h1]; exact ht i
        · exact absurd (Option.some.inj h0) e
  · rw [tv_app_len]
    cases d <;> simp [Act.put, hl]
  · cases d <;> rfl

theorem evT_rtv {S U : Nat → Prop} {L : Nat → Nat × Nat} {w : World} {t : List TV} {a : Act} (ht : ∀ i, RTV S U L w (a.tmps.getD i undef) (t.getD i .undef)) (x : Operand) : RTV S U L w (a.eval x) (evT t x) := by
  cases x with
  | tmp i => exact ht i
  | const v => exact evT_const
  | global g => trivial
  | func f => trivial

theorem guard_wanted {S U : Nat → Prop} {L : Nat → Nat × Nat} {w : World} {ops : Array Oper} {t : List TV} {a : Act} {o : Oper} {b : Bool} (ht : ∀ i, RTV S U L w (a.tmps.getD i undef) (t.getD i .undef)) (hg : guardT ops t o = some b) :
    Region.wanted o (yielded ops a.tmps) = b := by
  unfold guardT at hg
  unfold Region.wanted
  split at hg
  · rename_i e; rw [e]; exact Option.some.inj hg
  · rename_i j want e
    rw [e]
    split at hg
    · rename_i d hd
      split at hg
      · rename_i c hc
        obtain rfl := Option.some.inj hg
        have h1 := ht d
        rw [hc] at h1
        have h2 := rep_prim h1
        have h3 : a.tmps[d]? = some (.bool c) := by
          rw [Array.getD_eq_getD_getElem?] at h2
          cases h4 : a.tmps[d]? with
          | none => rw [h4] at h2; simp [undef] at h2
          | some v => rw [h4] at h2; simp at h2; rw [h2]
        have : yielded ops a.tmps j = some c := by unfold yielded; rw [hd]; simp [h3]
        simp only [this]
        cases c <;> cases want <;> rfl
      · rename_i hc
        obtain rfl := Option.some.inj hg
        have h1 := ht d
        rw [hc] at h1
        obtain ⟨xs, h2, h3, _⟩ := h1
        obtain rfl : xs = #[] := by simpa using h3
        have : yielded ops a.tmps j = none := by
          unfold yielded
          rw [hd]
          rw [Array.getD_eq_getD_getElem?] at h2
          simp only [Option.bind_some]
          cases h4 : a.tmps[d]? with
          | none => rfl
          | some v => rw [h4] at h2; simp at h2; rw [h2]
        simp only [this]
        rfl
      · cases hg
    · cases hg

/-! ### An operation looks at its operands alone, and at the nodes that these name -/

theorem evT_congr {t t' : List TV} {x : Operand} (h : ∀ i, x = .tmp i → t.getD i .undef = t'.getD i .undef) : evT t x = evT t' x := by
  cases x with
  | tmp i => exact h i rfl
  | _ => rfl

theorem srcT_local {h h' : Nat → Option Node} {s : Nat} {tv : TV} (hh : ∀ i ∈ tv.ids, h i = h' i) : srcT h s tv = srcT h' s tv := by
  unfold srcT
  split <;> try rfl
  rename_i id off n s'
  rw [hh id (by simp [TV.ids, Cell.id?])]

theorem appendT_local {P : Program} {h h' : Nat → Option Node} {nid : Nat} {ts tx : TypeId} {s x : TV} (hs : ∀ i ∈ s.ids, h i = h' i) (hx : ∀ i ∈ x.ids, h i = h' i) : appendT P h nid ts tx s x = appendT P h' nid ts tx s x := by
  unfold appendT
  split
  · rfl
  · split
    · rw [srcT_local hx]
      split
      · split
        · split
          · rfl
          · rename_i id off n s'
            rw [hs id (by simp [TV.ids, Cell.id?])]
          · rfl
        · rfl
      · rfl
    · rfl

theorem eff_local {P : Program} {h h' : Nat → Option Node} {nid : Nat} {ev ev' : Operand → TV} {op : Op} (hev : ∀ x ∈ op.operands, ev x = ev' x) (hh : ∀ x ∈ op.operands, ∀ i ∈ (ev x).ids, h i = h' i) : eff P h nid ev op = eff P h' nid ev' op := by
  cases op <;> simp only [eff]
  case move x => rw [hev x (by simp [Op.operands])]
  case assign x => rw [hev x (by simp [Op.operands])]
  case pick c a b => rw [hev c (by simp [Op.operands]), hev a (by simp [Op.operands]), hev b (by simp [Op.operands])]
  case box t x => rw [hev x (by simp [Op.operands])]
  case build t parts =>
    have : parts.toList.map (fun p => (p.1, ev p.2)) = parts.toList.map fun p => (p.1, ev' p.2) := List.map_congr_left fun p hp => by
      rw [hev p.2 (by simp [Op.operands]; exact ⟨p.1, by simpa using hp⟩)]
    rw [this]
  case buildSlice t n parts =>
    have : parts.toList.map (fun p => (p.1, ev p.2)) = parts.toList.map fun p => (p.1, ev' p.2) := List.map_congr_left fun p hp => by
      rw [hev p.2 (by simp [Op.operands]; exact ⟨p.1, by simpa using hp⟩)]
    rw [this]
  case load t a =>
    rw [← hev a (by simp [Op.operands])]
    have := hh a (by simp [Op.operands])
    split
    · split
      · split
        · rename_i id off e
          rw [this id (by rw [e]; simp [TV.ids, Cell.id?])]
        · rfl
        · rfl
      · rfl
    · rfl
  case store t a x =>
    rw [← hev a (by simp [Op.operands]), ← hev x (by simp [Op.operands])]
    have := hh a (by simp [Op.operands])
    split
    · rename_i id off b l e1 e2
      rw [this id (by rw [e1]; simp [TV.ids, Cell.id?])]
    · rfl
  case nilCheck x => rw [hev x (by simp [Op.operands])]
  case binOp op t x y yt => rw [hev x (by simp [Op.operands]), hev y (by simp [Op.operands])]
  case unOp op t x => rw [hev x (by simp [Op.operands])]
  case convert s d x =>
    rw [← hev x (by simp [Op.operands])]
    split <;> try rfl
    rw [srcT_local (hh x (by simp [Op.operands]))]
  case makeSlice t l c => rw [hev l (by simp [Op.operands]), hev c (by simp [Op.operands])]
  case slice t x lo hi mx =>
    cases mx with
    | some _ => rfl
    | none =>
      simp only
      have e1 : lo.map ev = lo.map ev' := by cases lo with
        | none => rfl
        | some y => simp [hev y (by simp [Op.operands])]
      have e2 : hi.map ev = hi.map ev' := by cases hi with
        | none => rfl
        | some y => simp [hev y (by simp [Op.operands])]
      rw [hev x (by simp [Op.operands]), e1, e2]
  case fieldAddr s x f => rw [hev x (by simp [Op.operands])]
  case field s x f => rw [hev x (by simp [Op.operands])]
  case indexAddr t x i => rw [hev x (by simp [Op.operands]), hev i (by simp [Op.operands])]
  case index t x i => rw [hev x (by simp [Op.operands]), hev i (by simp [Op.operands])]
  case extract x i => rw [hev x (by simp [Op.operands])]
  case call c =>
    obtain ⟨callee, args, tys⟩ := c
    cases callee with
    | value _ => rfl
    | invoke _ _ => rfl
    | builtin b =>
      have hargs : ∀ x ∈ args.toList, ev x = ev' x := fun x hx => hev x (by simp [Op.operands, Call.operands]; simpa using hx)
      have e : args.toList.map ev = args.toList.map ev' := List.map_congr_left hargs
      simp only
      rw [← e]
      unfold callT
      split <;> try rfl
      rename_i ts tx s x e1 e2
      have hm : ∀ y, y ∈ args.toList.map ev → ∀ i ∈ y.ids, h i = h' i := by
        intro y hy i hi
        obtain ⟨z, hz, rfl⟩ := List.mem_map.1 hy
        exact hh z (by simp [Op.operands, Call.operands]; simpa using hz) i hi
      exact appendT_local (hm s (by rw [e2]; simp)) (hm x (by rw [e2]; simp))

theorem snapC_local {h h' : Nat → Option Node} {c : Cell} (hh : ∀ i ∈ c.id?, h i = h' i) : snapC h c = snapC h' c := by
  unfold snapC
  split <;> try rfl
  rename_i id off n s
  rw [hh id (by simp [Cell.id?])]

theorem snapL_local {h h' : Nat → Option Node} : ∀ {zs : List Nat} {l : List Cell}, (∀ i ∈ l.flatMap Cell.id?, h i = h' i) → snapL h zs l = snapL h' zs l
  | [], [], _ => rfl
  | _ :: _, [], _ => rfl
  | [], c :: l, hh => by
    simp only [snapL]
    rw [snapC_local (fun i hi => hh i (by simp [hi])), snapL_local (l := l) (fun i hi => hh i (by simp only [List.flatMap_cons, List.mem_append]; exact .inr hi))]
  | s :: zs, c :: l, hh => by
    have h1 := snapC_local (c := c) (fun i hi => hh i (by simp [hi]))
    have h2 := fun zs => snapL_local (zs := zs) (l := l) (fun i hi => hh i (by simp only [List.flatMap_cons, List.mem_append]; exact .inr hi))
    cases c <;> simp only [snapL, h2, h1]

theorem argT_local {h h' : Nat → Option Node} {m : Mode} {x : TV} (hh : ∀ i ∈ x.ids, h i = h' i) : argT h m x = argT h' m x := by
  unfold argT
  split
  · rename_i b l
    rw [snapL_local (h' := h') (fun i hi => hh i hi)]
  · rfl
  · rename_i id off
    rw [hh id (by simp [TV.ids, Cell.id?])]
  · rename_i id off n s
    rw [hh id (by simp [TV.ids, Cell.id?])]
  · rfl

theorem giveL_local {h h' : Nat → Option Node} : ∀ {l : List Cell} {k : Nat}, (∀ i ∈ l.flatMap Cell.id?, h i = h' i) → giveL h k l = giveL h' k l
  | [], _, _ => rfl
  | c :: l, k, hh => by
    have h2 := fun k => giveL_local (k := k) (l := l) (fun i hi => hh i (by simp only [List.flatMap_cons, List.mem_append]; exact .inr hi))
    cases c with
    | prim v => simp only [giveL, h2]
    | nil => simp only [giveL, h2]
    | sl o n s x => cases o <;> simp only [giveL, h2]
    | ref id off n s =>
      simp only [giveL, h2]
      rw [hh id (by simp [Cell.id?])]
    | _ => rfl

theorem argsG_local {h h' : Nat → Option Node} : ∀ {ms : List Mode} {xs : List TV} {k : Nat}, (∀ x ∈ xs, ∀ i ∈ x.ids, h i = h' i) → argsG h k ms xs = argsG h' k ms xs
  | [], [], _, _ => rfl
  | m :: _, [], _, _ => by cases m <;> rfl
  | [], x :: xs, k, hh => by
    simp only [argsG]
    rw [argT_local (hh x (by simp)), argsG_local (fun y hy => hh y (by simp [hy]))]
  | m :: ms, x :: xs, k, hh => by
    have h1 := argT_local (m := m) (hh x (by simp))
    have h2 := fun k => argsG_local (ms := ms) (k := k) (xs := xs) (fun y hy => hh y (by simp [hy]))
    cases m with
    | str =>
      cases x with
      | v b l =>
        simp only [argsG]
        rw [giveL_local (h' := h') (fun i hi => hh (.v b l) (by simp) i hi)]
        simp only [h2]
      | _ => simp only [argsG, h1, h2]
    | _ => simp only [argsG, h1, h2]

theorem argsT_local {h h' : Nat → Option Node} {ms : List Mode} {xs : List TV} (hh : ∀ x ∈ xs, ∀ i ∈ x.ids, h i = h' i) : argsT h ms xs = argsT h' ms xs := by
  unfold argsT; rw [argsG_local hh]
end

end Go.Proofs.YtddikflnjloagaaGreatDoor
