/- Functions of the program, each with what it gives back. -/
import Derived.Test.YtkggnekdjdnhiaaGreatKe
import Derived.Test.YtkggnekdjdnhiaaGreatChecked
import Derived.IntWalk
import Derived.Test.YtkggnekdjdnhiaaGreatFv
import Derived.Test.YtkggnekdjdnhiaaGreatFu
namespace Go.Proofs.YtkggnekdjdnhiaaGreat
open Go Go.RowKit Go.IntWalk
open Enc (sz cs)
attribute [local irreducible] IntKind.wrap

/-! ### Right disks stay right -/
theorem cnt_bd {α : Type} {c : α → Nat} {m : Nat} : ∀ {l : List α}, (∀ x ∈ l, c x ≤ m) → cnt c l ≤ m * l.length
  | [], _ => by simp [cnt]
  | x :: l, h => by
    have h1 := h x (List.mem_cons_self ..)
    have h2 := cnt_bd (c := c) (m := m) (l := l) fun y hy => h y (List.mem_cons_of_mem _ hy)
    have e : cnt c (x :: l) = c x + cnt c l := rfl
    rw [e, List.length_cons, Nat.mul_succ]; omega
theorem DskOk.sec' {d : Dsk} (h : DskOk d) : ∀ x ∈ d.secs, x.length ≤ 256 := fun x hx => by
  obtain ⟨i, hi, rfl⟩ := List.getElem_of_mem hx
  exact h.sec i hi
theorem DskOk.wri' {d : Dsk} (h : DskOk d) : ∀ w ∈ d.cache, 0 ≤ w.n ∧ w.n < d.secs.length ∧ w.b.length ≤ 256 := fun x hx => by
  obtain ⟨i, hi, rfl⟩ := List.getElem_of_mem hx
  have := h.wri i hi
  exact ⟨this.1, by omega, this.2.2⟩
theorem DskOk.cut' {d : Dsk} (h : DskOk d) : ∀ f ∈ d.faults, 0 ≤ f.cut := fun x hx => by
  obtain ⟨i, hi, rfl⟩ := List.getElem_of_mem hx
  exact (h.fau i hi).2.2.2.2.1
theorem DskOk.small {d : Dsk} (h : DskOk d) : zD d ≤ 30000 := by
  have hz : zD d = d.secs.length + cnt List.length d.secs + (d.cache.length + cnt (fun w : Wri => w.b.length) d.cache) + d.faults.length := rfl
  have h1 := cnt_bd (c := List.length) h.sec'
  have h2 := cnt_bd (c := fun w : Wri => w.b.length) (m := 256) fun w hw => (h.wri' w hw).2.2
  have h3 := h.secs
  have h4 := h.cache
  have h5 := h.faults
  omega
theorem DskOk.mk' {d : Dsk} (secs : 4 ≤ d.secs.length ∧ d.secs.length ≤ 48) (cache : d.cache.length ≤ 60) (ops : 0 ≤ d.ops ∧ d.ops ≤ 100000) (faults : d.faults.length ≤ 20) (down : d.down = true → d.cache = []) (sec : ∀ x ∈ d.secs, x.length ≤ 256) (wri : ∀ w ∈ d.cache, 0 ≤ w.n ∧ w.n < d.secs.length ∧ w.b.length ≤ 256) (fau : ∀ i (h : i < d.faults.length), 0 ≤ d.faults[i].pos ∧ d.faults[i].pos ≤ 100000 ∧ 0 ≤ d.faults[i].keep ∧ d.faults[i].keep ≤ 1048575 ∧ 0 ≤ d.faults[i].cut ∧ d.faults[i].cut ≤ 256 ∧ (0 < i → d.faults[i - 1].pos < d.faults[i].pos)) : DskOk d :=
  ⟨secs, cache, ops, faults, down, fun i h => sec _ (List.getElem_mem h), fun i h => by
    have := wri _ (List.getElem_mem h)
    exact ⟨this.1, by omega, this.2.2⟩, fau⟩
theorem stl_mem : ∀ {l : List Wri} {secs : List (List UInt8)} {x : List UInt8}, x ∈ stl secs l → x ∈ secs ∨ ∃ w ∈ l, x = w.b
  | [], secs, x, h => .inl h
  | w :: l, secs, x, h => by
    rcases stl_mem (l := l) (secs := secs.set w.n.toNat w.b) h with h | ⟨v, hv, e⟩
    · rcases List.mem_or_eq_of_mem_set h with h | h
      · exact .inl h
      · exact .inr ⟨w, List.mem_cons_self .., h⟩
    · exact .inr ⟨v, List.mem_cons_of_mem _ hv, e⟩
theorem trL_mem {cut : Int} {l : List Wri} {w : Wri} (h : w ∈ trL cut l) : ∃ v ∈ l, w.n = v.n ∧ w.b.length ≤ v.b.length := by
  unfold trL at h
  split at h
  · rename_i v hv
    have hm := List.mem_of_getLast? hv
    rcases List.mem_append.1 h with h | h
    · exact ⟨w, List.dropLast_subset _ h, rfl, Nat.le_refl _⟩
    · obtain rfl := List.mem_singleton.1 h
      exact ⟨v, hm, rfl, by rw [List.length_take]; omega⟩
  · cases h
theorem los_ok {d : Dsk} {f : Fau} (h : DskOk d) : DskOk (losD d f) :=
  .mk' (by show 4 ≤ (stl _ _).length ∧ (stl _ _).length ≤ 48; rw [stl_len]; exact h.secs) (Nat.zero_le _) h.ops h.faults (fun _ => rfl)
    (fun x hx => by
      rcases stl_mem hx with hx | ⟨w, hw, rfl⟩
      · exact h.sec' x hx
      · obtain ⟨v, hv, _, hl⟩ := trL_mem hw
        exact Nat.le_trans hl (h.wri' v (kpI_mem hv)).2.2)
    (fun w hw => by cases hw) h.fau
theorem ops_ok {d : Dsk} (h : DskOk d) (h2 : d.ops < 100000) : DskOk { d with ops := d.ops + 1 } :=
  .mk' h.secs h.cache (by have := h.ops; show 0 ≤ d.ops + 1 ∧ d.ops + 1 ≤ 100000; omega) h.faults h.down h.sec' h.wri' h.fau
theorem app_ok {d : Dsk} {n : Int} {b : List UInt8} (h : DskOk d) (h1 : d.down = false) (h2 : d.ops < 100000) (h3 : d.cache.length < 60) (h4 : 0 ≤ n ∧ n < d.secs.length) (h5 : b.length ≤ 256) : DskOk { d with ops := d.ops + 1, cache := d.cache ++ [⟨n, b⟩] } :=
  .mk' h.secs (by simp only [List.length_append, List.length_singleton]; omega) (by have := h.ops; show 0 ≤ d.ops + 1 ∧ d.ops + 1 ≤ 100000; omega) h.faults (fun e => by simp only at e; rw [h1] at e; cases e) h.sec'
    (fun w hw => by
      rcases List.mem_append.1 hw with hw | hw
      · exact h.wri' w hw
      · obtain rfl := List.mem_singleton.1 hw
        exact ⟨h4.1, h4.2, h5⟩) h.fau
theorem set_ok {d : Dsk} (h : DskOk d) : DskOk { d with secs := stl d.secs d.cache, cache := [] } :=
  .mk' (by show 4 ≤ (stl _ _).length ∧ (stl _ _).length ≤ 48; rw [stl_len]; exact h.secs) (Nat.zero_le _) h.ops h.faults (fun _ => rfl)
    (fun x hx => by
      rcases stl_mem hx with hx | ⟨w, hw, rfl⟩
      · exact h.sec' x hx
      · exact (h.wri' w hw).2.2)
    (fun w hw => by cases hw) h.fau
theorem losD_secs {d : Dsk} {f : Fau} : (losD d f).secs.length = d.secs.length := stl_len
/-- What an operation leaves. -/
structure Lft (d d' : Dsk) (c : Int) (k : Nat) : Prop where
  ok : DskOk d'
  secs : d'.secs.length = d.secs.length
  cache : d'.cache.length ≤ k
  code : c = 0 ∨ c = 9
theorem wrD_ok {d : Dsk} {n : Int} {b : List UInt8} (h : DskOk d) (h3 : d.cache.length < 60) (h4 : 0 ≤ n ∧ n < d.secs.length) (h5 : b.length ≤ 256) : Lft d (wrD d n b).1 (wrD d n b).2 (d.cache.length + 1) := by
  unfold wrD
  split
  · exact ⟨h, rfl, Nat.le_succ _, .inr rfl⟩
  · rename_i hn
    have h1 : d.down = false := by cases e : d.down with
      | true => exact absurd (.inl e) hn
      | false => rfl
    have h2 : d.ops < 100000 := by
      have := fun e => hn (.inr e)
      omega
    have ha := app_ok h h1 h2 h3 h4 h5
    split
    · rename_i f hf
      exact ⟨los_ok ha, losD_secs, Nat.zero_le _, .inr rfl⟩
    · exact ⟨ha, rfl, by simp only [List.length_append, List.length_singleton]; omega, .inl rfl⟩
theorem flD_ok {d : Dsk} (h : DskOk d) : Lft d (flD d).1 (flD d).2 d.cache.length ∧ ((flD d).2 = 0 → (flD d).1.cache = []) := by
  unfold flD
  split
  · exact ⟨⟨h, rfl, Nat.le_refl _, .inr rfl⟩, fun e => by simp at e⟩
  · rename_i hn
    have h2 : d.ops < 100000 := by
      have := fun e => hn (.inr e)
      omega
    have ha := ops_ok h h2
    split
    · rename_i f hf
      exact ⟨⟨los_ok ha, losD_secs, Nat.zero_le _, .inr rfl⟩, fun e => by simp at e⟩
    · exact ⟨⟨set_ok ha, stl_len, Nat.zero_le _, .inl rfl⟩, fun _ => rfl⟩
/-! ### Making sure -/
theorem ptP_256 (k : Int) (b : List UInt8) : (ptP k b).length ≤ 256 := by
  unfold ptP
  split
  · rename_i h
    have h1 := uenc_len (clN_le k)
    have h2 := uenc_len (clN_le b.length)
    simp [ptS, be4]; omega
  · simp
theorem ptM_256 (m : Met) : (ptM m).length ≤ 256 := by
  unfold ptM
  split
  · exact ptP_256 _ _
  · simp
/-- A node's page. -/
noncomputable def pgN (x : Nod) : List UInt8 := ptP 1 (if nodOk x = true then bdN x else [])
def cmS (a : Dsk × Int) (n : Int) (b : List UInt8) : Dsk × Int := if a.2 = 0 then wrD a.1 n b else a
theorem cmS_y {a : Dsk × Int} {n : Int} {b : List UInt8} (h : a.2 = 0) : cmS a n b = wrD a.1 n b := if_pos h
theorem cmS_n {a : Dsk × Int} {n : Int} {b : List UInt8} (h : ¬ a.2 = 0) : cmS a n b = a := if_neg h
noncomputable def wrL (d : Dsk) (l : List Fre) : Dsk × Int := l.foldl (fun a f => cmS a f.n (pgN f.x)) (d, 0)
theorem wrL_suc {d : Dsk} {l : List Fre} {i : Nat} (h : i < l.length) : wrL d (l.take (i + 1)) = cmS (wrL d (l.take i)) l[i].n (pgN l[i].x) := by
  unfold wrL; rw [take_one h, List.foldl_append]; rfl
theorem wrL_bad {d : Dsk} {l : List Fre} {i : Nat} (h : ¬ (wrL d (l.take i)).2 = 0) : wrL d l = wrL d (l.take i) := by
  have key : ∀ (l : List Fre) (a : Dsk × Int), ¬ a.2 = 0 → l.foldl (fun a f => cmS a f.n (pgN f.x)) a = a := by
    intro l
    induction l with
    | nil => intro a _; rfl
    | cons f l ih => intro a h; rw [List.foldl_cons, cmS_n h]; exact ih a h
  have e : wrL d l = (l.drop i).foldl (fun a f => cmS a f.n (pgN f.x)) (wrL d (l.take i)) := by
    unfold wrL; rw [← List.foldl_append, List.take_append_drop]
  rw [e, key _ _ h]
def flS (a : Dsk × Int) : Dsk × Int := if a.2 = 0 then flD a.1 else a
theorem flS_y {a : Dsk × Int} (h : a.2 = 0) : flS a = flD a.1 := if_pos h
theorem flS_n {a : Dsk × Int} (h : ¬ a.2 = 0) : flS a = a := if_neg h
noncomputable def cmW (t : Txn) : Dsk × Int := flS (cmS (flS (wrL t.d t.new)) ((t.m.gen + 1).tmod 2) (ptM ⟨t.m.gen + 1, t.root⟩))
/-- What is under way is made sure of. -/
noncomputable def cmT (t : Txn) : Dsk × Int :=
  if txOk t = true ∧ t.d.cache.length = 0 ∧ t.m.gen < 1000000 then
    if t.new.length = 0 ∧ t.root = t.m.root then (t.d, 0) else ((cmW t).1, if (cmW t).2 = 0 then 0 else 9)
  else (t.d, 1)
theorem cmT_no {t : Txn} (h : ¬ (txOk t = true ∧ t.d.cache.length = 0 ∧ t.m.gen < 1000000)) : cmT t = (t.d, 1) := if_neg h
theorem cmT_eq {t : Txn} (h : txOk t = true ∧ t.d.cache.length = 0 ∧ t.m.gen < 1000000) (h2 : t.new.length = 0 ∧ t.root = t.m.root) : cmT t = (t.d, 0) := by
  unfold cmT; rw [if_pos h, if_pos h2]
theorem cmT_yes {t : Txn} (h : txOk t = true ∧ t.d.cache.length = 0 ∧ t.m.gen < 1000000) (h2 : ¬ (t.new.length = 0 ∧ t.root = t.m.root)) : cmT t = ((cmW t).1, if (cmW t).2 = 0 then 0 else 9) := by
  unfold cmT; rw [if_pos h, if_neg h2]
theorem gM_gen {b : List UInt8} : 0 ≤ (gM b).1.gen ∧ (gM b).1.gen ≤ 1000000 := by
  unfold gM
  split
  · rename_i h
    obtain ⟨_, h2, _⟩ := gU_ok h.2.1
    exact ⟨by simp only; omega, by simp only; omega⟩
  · simp
theorem bestM_gen {d : Dsk} : 0 ≤ (bestM d).1.gen ∧ (bestM d).1.gen ≤ 1000000 := by
  have key : ∀ {a : Met × Bool} {i : Int}, (0 ≤ a.1.gen ∧ a.1.gen ≤ 1000000) → 0 ≤ (bmS d a i).1.gen ∧ (bmS d a i).1.gen ≤ 1000000 := by
    intro a i h
    unfold bmS
    split
    · exact gM_gen
    · exact h
  exact key (key (by simp))
theorem TxOk.gen {t : Txn} (h : TxOk t) : 0 ≤ t.m.gen ∧ t.m.gen ≤ 1000000 := by
  rw [← h.m]; exact bestM_gen
theorem TxOk.n_in {t : Txn} (h : TxOk t) {i : Nat} (hi : i < t.new.length) : 2 + (i : Int) ≤ t.new[i].n ∧ t.new[i].n < t.d.secs.length := by
  have hf := fun (j : Nat) (hj : j < t.new.length) => frL_mem.1 (h.new j hj).free
  refine ⟨?_, (hf i hi).2.1⟩
  induction i with
  | zero => exact (hf 0 hi).1
  | succ i ih =>
    have h1 := ih (by omega)
    have h2 := (h.new (i + 1) hi).ord (by omega)
    simp only [Nat.add_sub_cancel] at h2
    omega
theorem TxOk.new_len {t : Txn} (h : TxOk t) : t.new.length ≤ 46 := by
  by_cases h0 : t.new.length = 0
  · omega
  · have h1 := h.n_in (i := t.new.length - 1) (by omega)
    have h2 := h.d.secs
    omega
theorem wrL_ok {t : Txn} (h : TxOk t) (hc : t.d.cache.length = 0) : ∀ {i : Nat}, i ≤ t.new.length → Lft t.d (wrL t.d (t.new.take i)).1 (wrL t.d (t.new.take i)).2 i
  | 0, _ => ⟨h.d, rfl, by show t.d.cache.length ≤ 0; omega, .inl rfl⟩
  | i + 1, hi => by
    have ih := wrL_ok h hc (i := i) (by omega)
    rw [wrL_suc (by omega)]
    have hl := h.new_len
    have hn := h.n_in (i := i) (by omega)
    by_cases e : (wrL t.d (t.new.take i)).2 = 0
    · rw [cmS_y e]
      have h1 := wrD_ok (n := t.new[i].n) (b := pgN t.new[i].x) ih.ok (by have := ih.cache; omega) (by rw [ih.secs]; omega) (ptP_256 _ _)
      exact ⟨h1.ok, h1.secs.trans ih.secs, by have := h1.cache; have := ih.cache; omega, h1.code⟩
    · rw [cmS_n e]
      exact ⟨ih.ok, ih.secs, by have := ih.cache; omega, ih.code⟩
theorem tm2 {n : Int} (h : 0 ≤ n) : 0 ≤ n.tmod 2 ∧ n.tmod 2 < 2 := by
  rw [Int.tmod_eq_emod_of_nonneg h]; omega
theorem wrL_all {t : Txn} : wrL t.d (t.new.take t.new.length) = wrL t.d t.new := by rw [List.take_length]
theorem wrL_fin {t : Txn} (h : TxOk t) (hc : t.d.cache.length = 0) : Lft t.d (wrL t.d t.new).1 (wrL t.d t.new).2 46 := by
  have := wrL_ok h hc (Nat.le_refl _)
  rw [wrL_all] at this
  exact ⟨this.ok, this.secs, by have := this.cache; have := h.new_len; omega, this.code⟩
theorem flS_fin {d : Dsk} {a : Dsk × Int} (h : Lft d a.1 a.2 46) : Lft d (flS a).1 (flS a).2 46 := by
  by_cases e : a.2 = 0
  · rw [flS_y e]
    have h1 := (flD_ok h.ok).1
    exact ⟨h1.ok, h1.secs.trans h.secs, by have := h1.cache; have := h.cache; omega, h1.code⟩
  · rw [flS_n e]; exact h
theorem cmS_fin {d : Dsk} {a : Dsk × Int} {n : Int} {b : List UInt8} (h : Lft d a.1 a.2 46) (h2 : 0 ≤ n ∧ n < d.secs.length) (h3 : b.length ≤ 256) : Lft d (cmS a n b).1 (cmS a n b).2 47 := by
  by_cases e : a.2 = 0
  · rw [cmS_y e]
    have h1 := wrD_ok (n := n) (b := b) h.ok (by have := h.cache; omega) (by rw [h.secs]; exact h2) h3
    exact ⟨h1.ok, h1.secs.trans h.secs, by have := h1.cache; have := h.cache; omega, h1.code⟩
  · rw [cmS_n e]; exact ⟨h.ok, h.secs, by have := h.cache; omega, h.code⟩
open Classical in
/-- A sector is written, if all is right. -/
noncomputable def wsD (d : Dsk) (n : Int) (b : List UInt8) : Dsk × Int := if DskOk d ∧ 0 ≤ n ∧ n < d.secs.length ∧ b.length ≤ 256 ∧ d.cache.length < 60 then wrD d n b else (d, 1)
theorem wsD_y {d : Dsk} {n : Int} {b : List UInt8} (h : DskOk d ∧ 0 ≤ n ∧ n < d.secs.length ∧ b.length ≤ 256 ∧ d.cache.length < 60) : wsD d n b = wrD d n b := if_pos h
theorem wsD_n {d : Dsk} {n : Int} {b : List UInt8} (h : ¬ (DskOk d ∧ 0 ≤ n ∧ n < d.secs.length ∧ b.length ≤ 256 ∧ d.cache.length < 60)) : wsD d n b = (d, 1) := if_neg h
open Classical in
noncomputable def fsD (d : Dsk) : Dsk × Int := if DskOk d then flD d else (d, 1)
theorem fsD_y {d : Dsk} (h : DskOk d) : fsD d = flD d := if_pos h
theorem fsD_n {d : Dsk} (h : ¬ DskOk d) : fsD d = (d, 1) := if_neg h

end Go.Proofs.YtkggnekdjdnhiaaGreat
