/- Functions of the program, each with what it gives back. -/
import Derived.Test.YtmphoefccibibaaKe
import Derived.Test.YtmphoefccibibaaChecked
import Derived.IntWalk
import Derived.Test.YtmphoefccibibaaFu
namespace Go.Proofs.Ytmphoefccibibaa
open Go Go.RowKit Go.IntWalk
open Enc (sz cs)
attribute [local irreducible] IntKind.wrap

/-! ### Right disks stay right -/
theorem cnt_bd {α : Type} {c : α → Nat} {m : Nat} : ∀ {l : List α}, (∀ x ∈ l, c x ≤ m) → cnt c l ≤ m * l.length
  | [], _ => by simp [cnt]
  | x :: l, h => by
    have h1 := h x (List.mem_cons_self ..)
    have h2 := cnt_bd (c := c) (m := m) (l := l) fun y hy => h y (List.mem_cons_of_mem _ hy)
    have e : cnt c (x :: l) = c x + cnt c l := rfl
    rw [e, List.length_cons, Nat.mul_succ]; omega
theorem DskOk.sec' {d : Dsk} (h : DskOk d) : ∀ x ∈ d.secs, x.length ≤ 256 := fun x hx => by
  obtain ⟨i, hi, rfl⟩ := List.getElem_of_mem hx
  exact h.sec i hi
theorem DskOk.wri' {d : Dsk} (h : DskOk d) : ∀ w ∈ d.cache, 0 ≤ w.n ∧ w.n < d.secs.length ∧ w.b.length ≤ 256 := fun x hx => by
  obtain ⟨i, hi, rfl⟩ := List.getElem_of_mem hx
  have := h.wri i hi
  exact ⟨this.1, by omega, this.2.2⟩
theorem DskOk.cut' {d : Dsk} (h : DskOk d) : ∀ f ∈ d.faults, 0 ≤ f.cut := fun x hx => by
  obtain ⟨i, hi, rfl⟩ := List.getElem_of_mem hx
  exact (h.fau i hi).2.2.2.2.1
theorem DskOk.small {d : Dsk} (h : DskOk d) : zD d ≤ 30000 := by
  have hz : zD d = d.secs.length + cnt List.length d.secs + (d.cache.length + cnt (fun w : Wri => w.b.length) d.cache) + d.faults.length := rfl
  have h1 := cnt_bd (c := List.length) h.sec'
  have h2 := cnt_bd (c := fun w : Wri => w.b.length) (m := 256) fun w hw => (h.wri' w hw).2.2
  have h3 := h.secs
  have h4 := h.cache
  have h5 := h.faults
  omega
theorem DskOk.mk' {d : Dsk} (secs : 4 ≤ d.secs.length ∧ d.secs.length ≤ 48) (cache : d.cache.length ≤ 60) (ops : 0 ≤ d.ops ∧ d.ops ≤ 100000) (faults : d.faults.length ≤ 20) (down : d.down = true → d.cache = []) (sec : ∀ x ∈ d.secs, x.length ≤ 256) (wri : ∀ w ∈ d.cache, 0 ≤ w.n ∧ w.n < d.secs.length ∧ w.b.length ≤ 256) (fau : ∀ i (h : i < d.faults.length), 0 ≤ d.faults[i].pos ∧ d.faults[i].pos ≤ 100000 ∧ 0 ≤ d.faults[i].keep ∧ d.faults[i].keep ≤ 1048575 ∧ 0 ≤ d.faults[i].cut ∧ d.faults[i].cut ≤ 256 ∧ (0 < i → d.faults[i - 1].pos < d.faults[i].pos)) : DskOk d :=
  ⟨secs, cache, ops, faults, down, fun i h => sec _ (List.getElem_mem h), fun i h => by
    have := wri _ (List.getElem_mem h)
    exact ⟨this.1, by omega, this.2.2⟩, fau⟩
theorem stl_mem : ∀ {l : List Wri} {secs : List (List UInt8)} {x : List UInt8}, x ∈ stl secs l → x ∈ secs ∨ ∃ w ∈ l, x = w.b
  | [], secs, x, h => .inl h
  | w :: l, secs, x, h => by
    rcases stl_mem (l := l) (secs := secs.set w.n.toNat w.b) h with h | ⟨v, hv, e⟩
    · rcases List.mem_or_eq_of_mem_set h with h | h
      · exact .inl h
      · exact .inr ⟨w, List.mem_cons_self .., h⟩
    · exact .inr ⟨v, List.mem_cons_of_mem _ hv, e⟩
theorem trL_mem {cut : Int} {l : List Wri} {w : Wri} (h : w ∈ trL cut l) : ∃ v ∈ l, w.n = v.n ∧ w.b.length ≤ v.b.length := by
  unfold trL at h
  split at h
  · rename_i v hv
    have hm := List.mem_of_getLast? hv
    rcases List.mem_append.1 h with h | h
    · exact ⟨w, List.dropLast_subset _ h, rfl, Nat.le_refl _⟩
    · obtain rfl := List.mem_singleton.1 h
      exact ⟨v, hm, rfl, by rw [List.length_take]; omega⟩
  · cases h
theorem los_ok {d : Dsk} {f : Fau} (h : DskOk d) : DskOk (losD d f) :=
  .mk' (by show 4 ≤ (stl _ _).length ∧ (stl _ _).length ≤ 48; rw [stl_len]; exact h.secs) (Nat.zero_le _) h.ops h.faults (fun _ => rfl)
    (fun x hx => by
      rcases stl_mem hx with hx | ⟨w, hw, rfl⟩
      · exact h.sec' x hx
      · obtain ⟨v, hv, _, hl⟩ := trL_mem hw
        exact Nat.le_trans hl (h.wri' v (kpI_mem hv)).2.2)
    (fun w hw => by cases hw) h.fau
theorem ops_ok {d : Dsk} (h : DskOk d) (h2 : d.ops < 100000) : DskOk { d with ops := d.ops + 1 } :=
  .mk' h.secs h.cache (by have := h.ops; show 0 ≤ d.ops + 1 ∧ d.ops + 1 ≤ 100000; omega) h.faults h.down h.sec' h.wri' h.fau
theorem app_ok {d : Dsk} {n : Int} {b : List UInt8} (h : DskOk d) (h1 : d.down = false) (h2 : d.ops < 100000) (h3 : d.cache.length < 60) (h4 : 0 ≤ n ∧ n < d.secs.length) (h5 : b.length ≤ 256) : DskOk { d with ops := d.ops + 1, cache := d.cache ++ [⟨n, b⟩] } :=
  .mk' h.secs (by simp only [List.length_append, List.length_singleton]; omega) (by have := h.ops; show 0 ≤ d.ops + 1 ∧ d.ops + 1 ≤ 100000; omega) h.faults (fun e => by simp only at e; rw [h1] at e; cases e) h.sec'
    (fun w hw => by
      rcases List.mem_append.1 hw with hw | hw
      · exact h.wri' w hw
      · obtain rfl := List.mem_singleton.1 hw
        exact ⟨h4.1, h4.2, h5⟩) h.fau
theorem set_ok {d : Dsk} (h : DskOk d) : DskOk { d with secs := stl d.secs d.cache, cache := [] } :=
  .mk' (by show 4 ≤ (stl _ _).length ∧ (stl _ _).length ≤ 48; rw [stl_len]; exact h.secs) (Nat.zero_le _) h.ops h.faults (fun _ => rfl)
    (fun x hx => by
      rcases stl_mem hx with hx | ⟨w, hw, rfl⟩
      · exact h.sec' x hx
      · exact (h.wri' w hw).2.2)
    (fun w hw => by cases hw) h.fau
theorem losD_secs {d : Dsk} {f : Fau} : (losD d f).secs.length = d.secs.length := stl_len
/-- What an operation leaves. -/
structure Lft (d d' : Dsk) (c : Int) (k : Nat) : Prop where
  ok : DskOk d'
  secs : d'.secs.length = d.secs.length
  cache : d'.cache.length ≤ k
  code : c = 0 ∨ c = 9
theorem wrD_ok {d : Dsk} {n : Int} {b : List UInt8} (h : DskOk d) (h3 : d.cache.length < 60) (h4 : 0 ≤ n ∧ n < d.secs.length) (h5 : b.length ≤ 256) : Lft d (wrD d n b).1 (wrD d n b).2 (d.cache.length + 1) := by
  unfold wrD
  split
  · exact ⟨h, rfl, Nat.le_succ _, .inr rfl⟩
  · rename_i hn
    have h1 : d.down = false := by cases e : d.down with
      | true => exact absurd (.inl e) hn
      | false => rfl
    have h2 : d.ops < 100000 := by
      have := fun e => hn (.inr e)
      omega
    have ha := app_ok h h1 h2 h3 h4 h5
    split
    · rename_i f hf
      exact ⟨los_ok ha, losD_secs, Nat.zero_le _, .inr rfl⟩
    · exact ⟨ha, rfl, by simp only [List.length_append, List.length_singleton]; omega, .inl rfl⟩
theorem flD_ok {d : Dsk} (h : DskOk d) : Lft d (flD d).1 (flD d).2 d.cache.length ∧ ((flD d).2 = 0 → (flD d).1.cache = []) := by
  unfold flD
  split
  · exact ⟨⟨h, rfl, Nat.le_refl _, .inr rfl⟩, fun e => by simp at e⟩
  · rename_i hn
    have h2 : d.ops < 100000 := by
      have := fun e => hn (.inr e)
      omega
    have ha := ops_ok h h2
    split
    · rename_i f hf
      exact ⟨⟨los_ok ha, losD_secs, Nat.zero_le _, .inr rfl⟩, fun e => by simp at e⟩
    · exact ⟨⟨set_ok ha, stl_len, Nat.zero_le _, .inl rfl⟩, fun _ => rfl⟩
/-! ### Making sure -/
theorem ptP_256 (k : Int) (b : List UInt8) : (ptP k b).length ≤ 256 := by
  unfold ptP
  split
  · rename_i h
    have h1 := uenc_len (clN_le k)
    have h2 := uenc_len (clN_le b.length)
    simp [ptS, be4]; omega
  · simp
theorem ptM_256 (m : Met) : (ptM m).length ≤ 256 := by
  unfold ptM
  split
  · exact ptP_256 _ _
  · simp

end Go.Proofs.Ytmphoefccibibaa
