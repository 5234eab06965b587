/- What the law comes to: functions of the program, each with what it gives back, and the plain facts behind them. -/
import Derived.Test.YtddikflnjloagaaGreatDoorChecked
import Derived.IntWalk
import Derived.Test.YtddikflnjloagaaGreatDoorPj
import Derived.Test.YtddikflnjloagaaGreatDoorPk
namespace Go.Proofs.YtddikflnjloagaaGreatDoor

section
open Go Go.RowKit Go.IntWalk

open Enc (sz cs)

attribute [local irreducible] IntKind.wrap

/-! ### How large it is -/

attribute [local irreducible] blC inC sIC apN mdN fbN ppN pkR

structure DfB (d : Df) : Prop where
  name : d.name.size ≤ 5
  cols : d.cols.length ≤ 7
  col : ∀ x ∈ d.cols, x.name.size ≤ 5
  prim : d.prim.length ≤ 3
  idx : d.idx.length ≤ 3
  ix : ∀ x ∈ d.idx, x.name.size ≤ 5 ∧ x.parts.length ≤ 2

theorem cnt_le_mul {α : Type} {c : α → Nat} {b : Nat} : ∀ {l : List α}, (∀ x ∈ l, c x ≤ b) → cnt c l ≤ b * l.length
  | [], _ => Nat.zero_le _
  | x :: l, h => by
    have h1 := h x (List.mem_cons_self ..)
    have h2 := cnt_le_mul (l := l) fun y hy => h y (List.mem_cons_of_mem _ hy)
    rw [List.length_cons, Nat.mul_add]
    simp only [cnt]; omega

theorem DfB.z {d : Df} (h : DfB d) : zDf d ≤ 100 := by
  obtain ⟨h1, h2, h3, h4, h5, h6⟩ := h
  have c1 := cnt_le_mul (c := zCl) (b := 5) h3
  have c2 := cnt_le_mul (c := zIx) (b := 7) (l := d.idx) (fun x hx => by
    have := h6 x hx
    show x.name.size + x.parts.length ≤ 7
    omega)
  have e : zDf d = d.name.size + (d.cols.length + cnt zCl d.cols) + d.prim.length + (d.idx.length + cnt zIx d.idx) := rfl
  omega

theorem nmC_s {i : Nat} : (nmC i).size ≤ 1 := by
  unfold nmC
  split <;> decide

theorem csR_n : ∀ {f i : Nat} {l : List Cl} {c : Cur}, (∀ x ∈ l, x.name.size ≤ 5) → ∀ x ∈ (csR f i l c).1, x.name.size ≤ 5
  | 0, _, _, _, h => h
  | f + 1, i, l, c, h => by
    rw [csR]
    split
    · refine csR_n fun x hx => ?_
      rcases List.mem_append.1 hx with p | p
      · exact h x p
      · rw [List.mem_singleton.1 p]
        exact Nat.le_trans (nmC_s (i := i)) (by decide)
    · exact h

theorem u_v {c : Cur} : (sIC c [⟨#[117]⟩, ⟨#[118]⟩]).1.size = 1 := by
  have h := sIC_mem (c := c) (l := [⟨#[117]⟩, ⟨#[118]⟩]) (by simp)
  generalize (sIC c [⟨#[117]⟩, ⟨#[118]⟩]).1 = x at *
  simp only [List.mem_cons, List.not_mem_nil, or_false] at h
  rcases h with h | h <;> (rw [h]; rfl)

theorem ixS_b {c : Cur} {i n : Nat} : (ixS c i n).1.name.size ≤ 5 ∧ (ixS c i n).1.parts.length ≤ 2 := by
  constructor
  · show ((sIC c [⟨#[117]⟩, ⟨#[118]⟩]).1 ++ nmC i).size ≤ 5
    rw [ByteArray.size_append, u_v]
    have := nmC_s (i := i)
    omega
  · exact p2C_len

theorem ixR_b {n : Nat} : ∀ {i : Nat} {l : List Ix} {c : Cur}, (∀ x ∈ l, x.name.size ≤ 5 ∧ x.parts.length ≤ 2) → ∀ x ∈ (ixR n i l c).1, x.name.size ≤ 5 ∧ x.parts.length ≤ 2
  | 0, _, _, h => h
  | i + 1, l, c, h => ixR_b (i := i) fun x hx => by
    rcases List.mem_append.1 hx with p | p
    · exact h x p
    · rw [List.mem_singleton.1 p]
      exact ixS_b

theorem dfD_b {c : Cur} {name : ByteArray} (h : name.size ≤ 5) : DfB (dfD c name).1 := by
  have h1 := dcC_len (c := c)
  have h2 := dpC_len (c := c)
  have h3 := dxC_len (c := c)
  refine ⟨h, ?_, csR_n (fun x hx => ?_), ?_, ?_, ixR_b (fun x hx => by simp at hx)⟩
  · show (dcC c).1.length ≤ 7; omega
  · rw [List.mem_singleton.1 hx]
    show (⟨#[105, 100]⟩ : ByteArray).size ≤ 5
    decide
  · show (dpC c).1.length ≤ 3; omega
  · show (dxC c).1.length ≤ 3; omega

theorem zcR_b : ∀ {f : Nat} {l : List Cl} {c : Cur}, l.length ≤ 7 → (∀ x ∈ l, x.name.size ≤ 5) → (zcR f l c).1.length ≤ 7 ∧ ∀ x ∈ (zcR f l c).1, x.name.size ≤ 5
  | 0, _, _, h, h2 => ⟨h, h2⟩
  | f + 1, l, c, h, h2 => by
    rw [zcR]
    split
    · rename_i hl
      have := blC_lt (c := c) (n := 2) (by decide)
      refine zcR_b (by rw [List.length_append, List.length_singleton]; omega) fun x hx => ?_
      rcases List.mem_append.1 hx with p | p
      · exact h2 x p
      · rw [List.mem_singleton.1 p]
        show (_ ++ _ : ByteArray).size ≤ 5
        rw [ByteArray.size_append]
        show 1 + 1 ≤ 5
        omega
    · exact ⟨h, h2⟩

theorem sIC_s {c : Cur} {l : List ByteArray} {b : Nat} (h : 0 < l.length) (h2 : ∀ x ∈ l, x.size ≤ b) : (sIC c l).1.size ≤ b := h2 _ (sIC_mem h)

theorem set_all {α : Type} {l : List α} {k : Nat} {y : α} {P : α → Prop} (h : ∀ x ∈ l, P x) (hy : P y) : ∀ x ∈ l.set k y, P x := fun x hx => by
  rcases List.mem_or_eq_of_mem_set hx with p | p
  · exact h x p
  · rw [p]; exact hy

theorem app_all {α : Type} {l : List α} {y : α} {P : α → Prop} (h : ∀ x ∈ l, P x) (hy : P y) : ∀ x ∈ l ++ [y], P x := fun x hx => by
  rcases List.mem_append.1 hx with p | p
  · exact h x p
  · rw [List.mem_singleton.1 p]; exact hy

theorem gd_n {l : List Cl} {k : Nat} (h : ∀ x ∈ l, x.name.size ≤ 5) : (l.getD k ⟨⟨#[]⟩, 0, false⟩).name.size ≤ 5 := by
  rw [List.getD_eq_getElem?_getD]
  by_cases hk : k < l.length
  · rw [List.getElem?_eq_getElem hk]; exact h _ (List.getElem_mem hk)
  · rw [List.getElem?_eq_none (by omega)]; decide

theorem anW_b {d : Df} {k w : Nat} {c : Cur} (h : DfB d) (hi : d.idx.length ≤ 2) (hp : d.prim.length ≤ 2) : DfB (anW d k w c).1 := by
  obtain ⟨h1, h2, h3, h4, h5, h6⟩ := h
  unfold anW
  split
  · exact ⟨sIC_s (by simp) (by intro x hx; simp only [List.mem_cons, List.not_mem_nil, or_false] at hx; rcases hx with h | h | h | h <;> (rw [h]; decide)), h2, h3, h4, h5, h6⟩
  split
  · exact ⟨h1, by rw [List.length_set]; exact h2, set_all h3 (sIC_s (by simp) (by intro x hx; simp only [List.mem_cons, List.not_mem_nil, or_false] at hx; rcases hx with h | h | h | h <;> (rw [h]; decide))), h4, h5, h6⟩
  split
  · exact ⟨h1, by rw [List.length_set]; exact h2, set_all h3 (gd_n h3), h4, h5, h6⟩
  split
  · exact ⟨h1, by rw [List.length_set]; exact h2, set_all h3 (gd_n h3), h4, h5, h6⟩
  split
  · exact ⟨h1, h2, h3, Nat.le_trans p2C_len (by decide), h5, h6⟩
  split
  · exact ⟨h1, h2, h3, by rw [List.length_append, List.length_singleton]; omega, h5, h6⟩
  split
  · exact ⟨h1, h2, h3, h4, by rw [List.length_append, List.length_singleton]; omega, app_all h6 ⟨sIC_s (by simp) (by intro x hx; simp only [List.mem_cons, List.not_mem_nil, or_false] at hx; rcases hx with h | h | h <;> (rw [h]; decide)), p2C_len⟩⟩
  split
  · exact ⟨h1, by rw [List.length_take]; omega, fun x hx => h3 x (List.mem_of_mem_take hx), h4, h5, h6⟩
  split
  · have hz := zcR_b (f := 6) (c := c) h2 h3
    exact ⟨h1, hz.1, hz.2, h4, h5, h6⟩
  · exact ⟨h1, h2, h3, h4, h5, h6⟩

theorem anF_b {c : Cur} : DfB (anF c).1 := anW_b (dfD_b (by decide)) dxC_len dpC_len

structure ScB (s : List Df) : Prop where
  pos : 1 ≤ s.length
  len : s.length ≤ 4
  df : ∀ d ∈ s, DfB d
  two : ∀ h : 0 < s.length, 2 ≤ s[0].cols.length

theorem ScB.z {s : List Df} (h : ScB s) : zSc s ≤ 404 := by
  have c1 := cnt_le_mul (c := zDf) (b := 100) (l := s) (fun d hd => (h.df d hd).z)
  have := h.len
  have e : zSc s = s.length + cnt zDf s := rfl
  omega

theorem dfD_2 {c : Cur} {name : ByteArray} : 2 ≤ (dfD c name).1.cols.length := (dcC_len (c := c)).1

theorem ldC_b {c : Cur} : ScB (ldC c).1 ∧ (ldC c).1.length ≤ 2 := by
  unfold ldC
  split
  · refine ⟨⟨by simp, by simp, fun d hd => ?_, fun _ => dfD_2⟩, by simp⟩
    simp only [List.mem_cons, List.not_mem_nil, or_false] at hd
    rcases hd with h | h
    · rw [h]; exact dfD_b (by decide)
    · rw [h]; exact dfD_b (by decide)
  · refine ⟨⟨by simp, by simp, fun d hd => ?_, fun _ => dfD_2⟩, by simp⟩
    rw [List.mem_singleton.1 hd]; exact dfD_b (by decide)

theorem ScB.app {s l : List Df} (h : ScB s) (hl : s.length + l.length ≤ 4) (h2 : ∀ d ∈ l, DfB d) : ScB (s ++ l) := by
  refine ⟨by rw [List.length_append]; have := h.pos; omega, by rw [List.length_append]; exact hl, fun d hd => ?_, fun _ => ?_⟩
  · rcases List.mem_append.1 hd with p | p
    · exact h.df d p
    · exact h2 d p
  · have h0 : 0 < s.length := h.pos
    rw [List.getElem_append_left h0]
    exact h.two h0

theorem laC_b {c : Cur} : ScB (laC c).1 := by
  have h := ldC_b (c := c)
  unfold laC
  split
  · refine h.1.app (by have := h.2; simp; omega) fun d hd => ?_
    rw [List.mem_singleton.1 hd]; exact anF_b
  · split
    · refine h.1.app (by have := h.2; simp; omega) fun d hd => ?_
      simp only [List.mem_cons, List.not_mem_nil, or_false] at hd
      rcases hd with h | h
      · rw [h]; exact dfD_b (by decide)
      · rw [h]; exact dfD_b (by decide)
    · exact h.1

theorem dsC_b {c : Cur} : ScB (dsC c).1 := by
  unfold dsC
  split
  · exact laC_b
  · exact ldC_b.1

/-! rows and operations -/

theorem gd_b {s : List Df} (h : ScB s) (k : Nat) : (s.getD k ⟨⟨#[]⟩, [], [], []⟩).cols.length ≤ 7 := by
  rw [List.getD_eq_getElem?_getD]
  by_cases hk : k < s.length
  · rw [List.getElem?_eq_getElem hk]; exact (h.df _ (List.getElem_mem hk)).cols
  · rw [List.getElem?_eq_none (by omega)]; decide

theorem pkV_s {r : List Vl} {p : Prt} {b : Nat} (h : ∀ x ∈ r, x.s.size ≤ b) : (pkV r p).s.size ≤ b := by
  unfold pkV
  split
  · rw [List.getD_eq_getElem?_getD]
    by_cases hk : p.col.toNat < r.length
    · rw [List.getElem?_eq_getElem hk]; exact h _ (List.getElem_mem hk)
    · rw [List.getElem?_eq_none (by omega)]; exact Nat.zero_le _
  · exact Nat.zero_le _

structure RowB (r : List Vl) : Prop where
  len : r.length ≤ 8
  s : ∀ x ∈ r, x.s.size ≤ 31

theorem RowB.z {r : List Vl} (h : RowB r) : zRow r ≤ 256 := by
  have c1 := cnt_le_mul (c := zVl) (b := 31) (l := r) h.s
  have := h.len
  have e : zRow r = r.length + cnt zVl r := rfl
  omega

theorem rwC_s {c : Cur} {l : List Cl} : ∀ {i : Nat}, ∀ x ∈ (rwC c l i).1, x.s.size ≤ 31
  | 0 => fun x hx => by simp [rwC] at hx
  | i + 1 => app_all (rwC_s (i := i)) (Nat.le_trans shC_s (by decide))

theorem opR_b {s : List Df} {c : Cur} (h : ScB s) : (opR s c).1.length ≤ 7 ∧ ∀ x ∈ (opR s c).1, x.s.size ≤ 31 := by
  refine ⟨?_, rwC_s⟩
  unfold opR
  rw [rwC_len]
  exact gd_b h _

theorem pkR_s {l : List Prt} {r : List Vl} {b : Nat} (h : ∀ x ∈ r, x.s.size ≤ b) : ∀ x ∈ pkR l r, x.s.size ≤ b := by
  unfold pkR
  intro x hx
  obtain ⟨p, _, rfl⟩ := List.mem_map.1 hx
  exact pkV_s h

theorem opC1_b {s : List Df} {c : Cur} (h : ScB s) : (opC1 s c).1.row.length ≤ 7 ∧ ∀ x ∈ (opC1 s c).1.row, x.s.size ≤ 31 := by
  have hr := opR_b (c := c) h
  show (if (opK c).1 = 4 then pkR (ppN (s.getD (opT s c).1 ⟨⟨#[]⟩, [], [], []⟩)) (opR s c).1 else (opR s c).1).length ≤ 7 ∧ ∀ x ∈ (if (opK c).1 = 4 then pkR (ppN (s.getD (opT s c).1 ⟨⟨#[]⟩, [], [], []⟩)) (opR s c).1 else (opR s c).1), x.s.size ≤ 31
  split
  · refine ⟨?_, pkR_s hr.2⟩
    rw [pkR_len]
    exact Nat.le_trans ppN_len (by decide)
  · exact hr

theorem lgR_s {l : List Cl} {r : List Vl} (h : ∀ x ∈ r, x.s.size ≤ 31) : ∀ {i : Nat}, ∀ x ∈ lgR l i r, x.s.size ≤ 31
  | 0 => h
  | i + 1 => by
    rw [lgR]
    split
    · refine set_all (lgR_s h (i := i)) ?_
      show (List.replicate 30 (0 : UInt8)).toArray.size ≤ 31
      rw [List.size_toArray, List.length_replicate]; omega
    · exact lgR_s h

theorem raC_b {c : Cur} {l : List Cl} (h : l.length ≤ 7) : RowB (raC c l).1 := by
  have hl : (rwC c l l.length).1.length = l.length := rwC_len
  have hs := rwC_s (c := c) (l := l) (i := l.length)
  unfold raC raW
  split
  · exact ⟨by rw [List.length_set]; omega, set_all hs vaC_s⟩
  split
  · exact ⟨by rw [List.length_append, List.length_singleton]; omega, app_all hs (Nat.le_trans voC_s (by decide))⟩
  split
  · exact ⟨by rw [lgR_len]; omega, lgR_s hs⟩
  · exact ⟨by rw [hl]; omega, hs⟩

theorem oaC_b {c : Cur} {s : List Df} (h : ScB s) : RowB (oaC c s).1.row := by
  have hr := opC1_b (c := c) h
  unfold oaC oaW
  split
  · exact ⟨Nat.le_trans hr.1 (by decide), hr.2⟩
  split
  · exact ⟨Nat.le_trans hr.1 (by decide), hr.2⟩
  split
  · exact raC_b (gd_b h 0)
  split
  · exact ⟨by rw [List.length_append, List.length_singleton]; omega, app_all hr.2 (Nat.le_trans voC_s (by decide))⟩
  · exact ⟨Nat.le_trans hr.1 (by decide), hr.2⟩

theorem opC1_z {c : Cur} {s : List Df} (h : ScB s) : zRow (opC1 s c).1.row ≤ 256 := by
  have hr := opC1_b (c := c) h
  exact (RowB.mk (Nat.le_trans hr.1 (by decide)) hr.2).z

theorem mdN_z0 {s : List Df} : zMdb (mdN s) ≤ s.length := by
  have hc : ∀ n, cnt zTab (List.replicate n ([] : List (List Vl))) = 0 := fun n => by
    induction n with
    | zero => rfl
    | succ n ih => rw [List.replicate_succ]; simp [cnt, ih, zTab]
  by_cases e : fbN s = -1
  · rw [mdN_y e]
    show (List.replicate s.length ([] : List (List Vl))).length + cnt zTab (List.replicate s.length ([] : List (List Vl))) ≤ _
    rw [hc, List.length_replicate]; omega
  · rw [mdN_n e]; exact Nat.zero_le _

theorem tdR_z {s : List Df} (h : ScB s) : ∀ {i : Nat} {m : Tbs} {c : Cur}, zMdb (tdR s i m c).1 ≤ zMdb m + 257 * i
  | 0, m, _ => by simp [tdR]
  | i + 1, m, c => by
    have h1 := tdR_z h (i := i) (m := (apN s m (opC1 s c).1).1) (c := (opC1 s c).2)
    have h2 := apN_z (s := s) (m := m) (o := (opC1 s c).1)
    have h3 := opC1_z (c := c) h
    show zMdb (tdR s i (apN s m (opC1 s c).1).1 (opC1 s c).2).1 ≤ _
    omega

theorem tdC_z {s : List Df} {c : Cur} {most : Nat} (h : ScB s) (hm : 0 < most) (h2 : most ≤ 100) : zMdb (tdC c s most).1 ≤ 30000 := by
  have h1 := tdR_z h (i := (blC c most).1) (m := mdN s) (c := (blC c most).2)
  have h3 := mdN_z0 (s := s)
  have h4 := blC_lt (c := c) hm
  have h5 := h.len
  unfold tdC
  omega
end

section
open Go Go.RowKit Go.IntWalk

open Enc (sz cs)

attribute [local irreducible] IntKind.wrap

/-! ### What is drawn straight is right -/

attribute [local irreducible] blC inC sIC bOf fstI cdN

theorem frOk_s {s : ByteArray} (h : 1 ≤ s.size ∧ s.size ≤ 2) (hc : ∀ i (h : i < s.size), 97 ≤ s[i].toNat ∧ s[i].toNat ≤ 122) : frOk s = true := by
  have hw : ∀ w ∈ wrds, 3 ≤ w.size := by
    intro w hw
    simp only [wrds, List.mem_cons, List.not_mem_nil, or_false] at hw
    rcases hw with h | h | h | h | h | h | h | h | h | h <;> (rw [h]; decide)
  rw [frOk_f fun q => by have := hw s q; omega]
  exact nmOk_y ⟨by omega, fun i hi => .inl (hc i hi)⟩

theorem fr_2 {a b : UInt8} (h : 97 ≤ a.toNat ∧ a.toNat ≤ 122) (h2 : 97 ≤ b.toNat ∧ b.toNat ≤ 122) : frOk ⟨#[a, b]⟩ = true := by
  refine frOk_s ⟨by show 1 ≤ 2; omega, by show 2 ≤ 2; omega⟩ fun i hi => ?_
  have hi : i < 2 := hi
  rcases (show i = 0 ∨ i = 1 by omega) with rfl | rfl
  · exact h
  · exact h2

structure IxI (n : Nat) (x : Ix) (i : Nat) : Prop where
  nm : x.name = ⟨#[117]⟩ ++ nmC i ∨ x.name = ⟨#[118]⟩ ++ nmC i
  prt : PrtOk n x.parts

theorem IxI.fr {n i : Nat} {x : Ix} (h : IxI n x i) (hi : i = 1 ∨ i = 2) : frOk x.name = true := by
  rcases hi with rfl | rfl <;> rcases h.nm with e | e <;> (rw [e]; exact fr_2 (by decide) (by decide))

theorem IxI.ne {n : Nat} {x y : Ix} (h : IxI n x 2) (h2 : IxI n y 1) : x.name ≠ y.name := by
  rcases h.nm with e | e <;> rcases h2.nm with e2 | e2 <;> (rw [e, e2]; decide)
end

section
open Go Go.RowKit Go.IntWalk

open Enc (sz cs)

attribute [local irreducible] IntKind.wrap

/-! ### Drawn rows fit; what is told of operations -/

attribute [local irreducible] blC inC sIC bOf fstI cdN fbN vlOk apN moS

theorem gds {s : List Df} {i : Nat} (h : i < s.length) : s.getD i ⟨⟨#[]⟩, [], [], []⟩ = s[i] := by
  rw [List.getD_eq_getElem?_getD, List.getElem?_eq_getElem h]; rfl
end

section
open Go Go.RowKit Go.IntWalk

open Enc (sz cs)

attribute [local irreducible] IntKind.wrap

/-! ### Tables that are bent; what the laws draw -/

attribute [local irreducible] blC inC sIC bOf fstI cdN fbN apN moS pkR ppN raC tdC opC1 oaC dsC ldC laC

theorem apN_err {s : List Df} {m : Tbs} {o : Opn} (h : ¬ (apN s m o).2 = 0) : (apN s m o).1 = m := by
  unfold apN at *
  split
  · split
    · split
      · rename_i h1 h2 h3
        rw [if_pos h1, dif_pos h2, if_pos h3] at h
        exact absurd rfl h
      · rfl
    · rfl
  · rfl

def swp (t : List (List Vl)) : List (List Vl) := (t.set 0 (t.getD 1 [])).set 1 (t.getD 0 [])

noncomputable def taW (s : List Df) (m : Tbs) (w : Nat) (c : Cur) : Tbs × Cur :=
  if w = 0 then (m.set 0 (m.getD 0 [] ++ [(raC c (s.getD 0 ⟨⟨#[]⟩, [], [], []⟩).cols).1]), (raC c (s.getD 0 ⟨⟨#[]⟩, [], [], []⟩).cols).2)
  else if w = 1 then (m.drop 1, c)
  else if w = 2 then (if 1 < (m.getD 0 []).length then m.set 0 (swp (m.getD 0 [])) else m, c)
  else (m, c)

noncomputable def taC (c : Cur) (s : List Df) (most : Nat) : Tbs × Cur :=
  if (tdC c s most).1.length = 0 then tdC c s most
  else taW s (tdC c s most).1 (blC (tdC c s most).2 16).1 (blC (tdC c s most).2 16).2

theorem tdC_ok {c : Cur} {s : List Df} {most : Nat} (h : CurOk c) : CurOk (tdC c s most).2 := by
  unfold tdC; exact tdR_ok (blC_ok h)

theorem taW_ok {s : List Df} {m : Tbs} {w : Nat} {c : Cur} (h : CurOk c) : CurOk (taW s m w c).2 := by
  unfold taW
  split
  · exact raC_ok h
  split
  · exact h
  split
  · exact h
  · exact h

theorem taC_ok {c : Cur} {s : List Df} {most : Nat} (h : CurOk c) : CurOk (taC c s most).2 := by
  unfold taC
  split
  · exact tdC_ok h
  · exact taW_ok (blC_ok (tdC_ok h))

theorem zzR_set {t : List (List Vl)} {k : Nat} {r : List Vl} (h : k < t.length) : zzR (t.set k r) + zRow t[k] = zzR t + zRow r := by
  have := cnt_set (c := zRow) (x := r) h
  simp only [zzR, List.length_set]
  omega

theorem swp_z {t : List (List Vl)} (h : 1 < t.length) : zzR (swp t) = zzR t := by
  unfold swp
  have e0 : t.getD 0 [] = t[0] := by rw [List.getD_eq_getElem?_getD, List.getElem?_eq_getElem (by omega)]; rfl
  have e1 : t.getD 1 [] = t[1] := by rw [List.getD_eq_getElem?_getD, List.getElem?_eq_getElem h]; rfl
  rw [e0, e1]
  have h1 := zzR_set (t := t) (k := 0) (r := t[1]) (by omega)
  have h2 := zzR_set (t := t.set 0 t[1]) (k := 1) (r := t[0]) (by rw [List.length_set]; exact h)
  rw [List.getElem_set_ne (by decide)] at h2
  omega

theorem set_z {m : Tbs} {t : List (List Vl)} (h : 0 < m.length) : zMdb (m.set 0 t) + zTab m[0] = zMdb m + zTab t := by
  have := cnt_set (c := zTab) (x := t) h
  simp only [zMdb, List.length_set]
  omega

theorem gd0 {m : Tbs} (h : 0 < m.length) : m.getD 0 [] = m[0] := by
  rw [List.getD_eq_getElem?_getD, List.getElem?_eq_getElem h]; rfl

theorem taW_z {s : List Df} {m : Tbs} {w : Nat} {c : Cur} (hs : ScB s) (h : 0 < m.length) : zMdb (taW s m w c).1 ≤ zMdb m + 257 := by
  unfold taW
  split
  · have h1 := set_z (t := m.getD 0 [] ++ [(raC c (s.getD 0 ⟨⟨#[]⟩, [], [], []⟩).cols).1]) h
    have h2 := (raC_b (c := c) (gd_b hs 0)).z
    have h3 : zzR (m.getD 0 [] ++ [(raC c (s.getD 0 ⟨⟨#[]⟩, [], [], []⟩).cols).1]) = zzR (m.getD 0 []) + (1 + zRow (raC c (s.getD 0 ⟨⟨#[]⟩, [], [], []⟩).cols).1) := by rw [zz_ap, zz_1]
    have e : zTab (m.getD 0 [] ++ [(raC c (s.getD 0 ⟨⟨#[]⟩, [], [], []⟩).cols).1]) = zzR (m.getD 0 [] ++ [(raC c (s.getD 0 ⟨⟨#[]⟩, [], [], []⟩).cols).1]) := rfl
    have e2 : zTab m[0] = zzR m[0] := rfl
    rw [gd0 h] at h3 h1 e ⊢
    simp only
    omega
  split
  · have e : zMdb m = zMdb (m.take 1 ++ m.drop 1) := by rw [List.take_append_drop]
    have e2 : zMdb (m.take 1 ++ m.drop 1) = (m.take 1 ++ m.drop 1).length + cnt zTab (m.take 1 ++ m.drop 1) := rfl
    have e3 : zMdb (m.drop 1) = (m.drop 1).length + cnt zTab (m.drop 1) := rfl
    rw [cnt_ap, List.length_append] at e2
    show zMdb (m.drop 1) ≤ _
    omega
  split
  · split
    · rename_i hl
      rw [gd0 h] at hl ⊢
      have h1 := set_z (t := swp m[0]) h
      have h2 := swp_z hl
      have e : zTab (swp m[0]) = zzR (swp m[0]) := rfl
      have e2 : zTab m[0] = zzR m[0] := rfl
      simp only
      omega
    · simp only; omega
  · simp only; omega

theorem taC_z {c : Cur} {s : List Df} {most : Nat} (hs : ScB s) (hm : 0 < most) (h2 : most ≤ 100) : zMdb (taC c s most).1 ≤ 30257 := by
  have h := tdC_z (c := c) hs hm h2
  unfold taC
  split
  · omega
  · have := taW_z (w := (blC (tdC c s most).2 16).1) (c := (blC (tdC c s most).2 16).2) (m := (tdC c s most).1) hs (by omega)
    omega

/-! DrawMdb -/

/-! DrawApplyOp -/

noncomputable abbrev doS (b : List UInt8) : List Df × Cur := dsC (nwC b)

noncomputable abbrev doM (b : List UInt8) : Tbs × Cur := taC (doS b).2 (doS b).1 (szC b 14)

noncomputable abbrev doO (b : List UInt8) : Opn × Cur := oaC (doM b).2 (doS b).1
end

section
open Go Go.RowKit Go.IntWalk

open Enc (sz cs)

attribute [local irreducible] IntKind.wrap

/-! ### The draws, walked -/

attribute [local irreducible] blC inC sIC byC csR

set_option maxRecDepth 100000 in
theorem tx106 {c : Cur} {l : List ByteArray} (hc : CurOk c := by first | assumption | omega | (simp; done) | (simp; omega)) (hl : 0 < l.length ∧ l.length ≤ 1000 := by first | assumption | omega | (simp; done) | (simp; omega)) : T 106 [aC c, aO l] [vS (sIC c l).1] [some (cuC (sIC c l).2), some (cs true l)] := by
  refine w_call md [] Tryz.func106 rfl ?_
  have hb := blC_lt (c := c) hl.1
  rw [sIC_at hl.1]
  repeat' ((conv => whnf); (first | (apply cx72; refine kl (tx72 (c := c) (n := l.length)) ?_) | refine k0 ?_ | refine jA fun _ => ?_ | refine jB fun _ => ?_ | refine kC (fun _ => ?_) fun _ => ?_ | refine jst ?_ | exact ⟨rfl, rfl⟩ | exact jV | fail))

theorem cx106 {P : Program} {X : FuncId → List Arg → List (Bool × List Cell) → List (Option (List Cell)) → Prop} {a : List Arg} {Q : List (Bool × List Cell) → List (Option (List Cell)) → Prop} (h : ∃ b vals outs, a = b ∧ D P X (.call 106 b vals outs) ∧ Q vals outs) : CallS P X 106 a Q := ⟨h⟩

set_option maxRecDepth 100000 in
theorem tx37 {b : List UInt8} {most : Nat} (hb : b.length ≤ 1048576 := by first | assumption | omega | (simp; done) | (simp; omega)) : T 37 [aE b, aI (most : Nat)] [vI (szC b most : Nat)] [none, none] := by
  refine w_call md [] Tryz.func37 rfl ?_
  repeat' ((conv => whnf); (first | refine And.intro (by decide) (Exists.intro ((b.length / 12 : Nat) : Int) (And.intro (by rw [Int.tdiv_eq_ediv_of_nonneg (by omega)]; exact i64_in _ (by omega)) ?_)) | refine k0 ?_ | refine jA fun _ => ?_ | refine jB fun _ => ?_ | refine kC (fun _ => ?_) fun _ => ?_ | refine jst ?_ | exact ⟨rfl, rfl⟩ | exact jV | fail))
  all_goals exact ⟨vIe (by unfold szC; omega), rfl⟩

theorem cx37 {P : Program} {X : FuncId → List Arg → List (Bool × List Cell) → List (Option (List Cell)) → Prop} {a : List Arg} {Q : List (Bool × List Cell) → List (Option (List Cell)) → Prop} (h : ∃ b vals outs, a = b ∧ D P X (.call 37 b vals outs) ∧ Q vals outs) : CallS P X 37 a Q := ⟨h⟩

set_option maxHeartbeats 2000000 in
set_option maxRecDepth 100000 in
theorem tx107 {c : Cur} {n : Nat} (hc : CurOk c := by first | assumption | omega | (simp; done) | (simp; omega)) (hn : 2 ≤ n ∧ n ≤ 100 := by first | assumption | omega | (simp; done) | (simp; omega)) : T 107 [aC c, aI (n : Nat)] [vE (p2C c n).1] [some (cuC (p2C c n).2), none] := by
  refine w_call md [] Tryz.func107 rfl ?_
  have k1 := blC_ok (n := n) hc
  have k2 := blC_ok (n := 2) k1
  have k3 := blC_ok (n := 3) k2
  have k4 := blC_ok (n := 2) k3
  have b1 := blC_lt (c := c) (n := n) (by omega)
  have hO := tx71 (c := (blC (blC c n).2 2).2) (n := 3) k2 (by decide)
  unfold p2C
  rw [if_pos (by omega)]
  cases h3 : decide ((blC (blC (blC c n).2 2).2 3).1 = 0)
  · rw [h3] at hO
    rw [if_neg (by rw [show (onC (onC (blC c n).2 2).2 3).1 = false from h3]; decide)]
    repeat' ((conv => whnf); (first | (apply cx72; refine kl (tx72 (c := c) (n := n)) ?_) | (apply cx71; refine kl (tx71 (c := (blC c n).2) (n := 2)) ?_) | (apply cx71; refine kl (hO) ?_) | refine k0 ?_ | refine jA fun _ => ?_ | refine jB fun _ => ?_ | refine kC (fun _ => ?_) fun _ => ?_ | refine jst ?_ | exact ⟨rfl, rfl⟩ | exact jV | fail))
    all_goals ((conv => whnf); exact ⟨by first | (simp only [*]; done) | (simp only [*]; rfl), rfl⟩)
  · rw [h3] at hO
    rw [if_pos (show (onC (onC (blC c n).2 2).2 3).1 = true from h3)]
    have hA := tx71 (c := (blC c n).2) (n := 2) k1 (by decide)
    have hB := tx71 (c := (blC (blC (blC c n).2 2).2 3).2) (n := 2) k3 (by decide)
    cases h2 : decide ((blC (blC c n).2 2).1 = 0)
    · cases h5 : decide ((blC (blC (blC (blC c n).2 2).2 3).2 2).1 = 0)
      · rw [h2] at hA
        rw [h5] at hB
        repeat' ((conv => whnf); (first | (apply cx72; refine kl (tx72 (c := c) (n := n)) ?_) | (apply cx71; refine kl (hA) ?_) | (apply cx71; refine kl (hO) ?_) | (apply cx71; refine kl (hB) ?_) | refine And.intro (by omega) (Exists.intro ((((blC c n).1 + 1) % n : Nat) : Int) (And.intro (Int.tmod_eq_emod_of_nonneg (by omega)) ?_)) | refine Exists.intro _ (Exists.intro (cs true ([⟨(((blC c n).1 + 1) % n : Nat), false⟩] : List By)) (And.intro rfl (And.intro ⟨Nat.le_refl _, bgb (by omega), bg (by omega)⟩ (apE (o := true) (xs := ([⟨((blC c n).1 : Nat), false⟩] : List By)) ?_)))) | refine k0 ?_ | refine jA fun _ => ?_ | refine jB fun _ => ?_ | refine kC (fun _ => ?_) fun _ => ?_ | refine jst ?_ | exact ⟨rfl, rfl⟩ | exact jV | fail))
        all_goals ((conv => whnf); exact ⟨by first | (simp only [*]; done) | (simp only [*]; rfl), rfl⟩)
      · rw [h2] at hA
        rw [h5] at hB
        repeat' ((conv => whnf); (first | (apply cx72; refine kl (tx72 (c := c) (n := n)) ?_) | (apply cx71; refine kl (hA) ?_) | (apply cx71; refine kl (hO) ?_) | (apply cx71; refine kl (hB) ?_) | refine And.intro (by omega) (Exists.intro ((((blC c n).1 + 1) % n : Nat) : Int) (And.intro (Int.tmod_eq_emod_of_nonneg (by omega)) ?_)) | refine Exists.intro _ (Exists.intro (cs true ([⟨(((blC c n).1 + 1) % n : Nat), true⟩] : List By)) (And.intro rfl (And.intro ⟨Nat.le_refl _, bgb (by omega), bg (by omega)⟩ (apE (o := true) (xs := ([⟨((blC c n).1 : Nat), false⟩] : List By)) ?_)))) | refine k0 ?_ | refine jA fun _ => ?_ | refine jB fun _ => ?_ | refine kC (fun _ => ?_) fun _ => ?_ | refine jst ?_ | exact ⟨rfl, rfl⟩ | exact jV | fail))
        all_goals ((conv => whnf); exact ⟨by first | (simp only [*]; done) | (simp only [*]; rfl), rfl⟩)
    · cases h5 : decide ((blC (blC (blC (blC c n).2 2).2 3).2 2).1 = 0)
      · rw [h2] at hA
        rw [h5] at hB
        repeat' ((conv => whnf); (first | (apply cx72; refine kl (tx72 (c := c) (n := n)) ?_) | (apply cx71; refine kl (hA) ?_) | (apply cx71; refine kl (hO) ?_) | (apply cx71; refine kl (hB) ?_) | refine And.intro (by omega) (Exists.intro ((((blC c n).1 + 1) % n : Nat) : Int) (And.intro (Int.tmod_eq_emod_of_nonneg (by omega)) ?_)) | refine Exists.intro _ (Exists.intro (cs true ([⟨(((blC c n).1 + 1) % n : Nat), false⟩] : List By)) (And.intro rfl (And.intro ⟨Nat.le_refl _, bgb (by omega), bg (by omega)⟩ (apE (o := true) (xs := ([⟨((blC c n).1 : Nat), true⟩] : List By)) ?_)))) | refine k0 ?_ | refine jA fun _ => ?_ | refine jB fun _ => ?_ | refine kC (fun _ => ?_) fun _ => ?_ | refine jst ?_ | exact ⟨rfl, rfl⟩ | exact jV | fail))
        all_goals ((conv => whnf); exact ⟨by first | (simp only [*]; done) | (simp only [*]; rfl), rfl⟩)
      · rw [h2] at hA
        rw [h5] at hB
        repeat' ((conv => whnf); (first | (apply cx72; refine kl (tx72 (c := c) (n := n)) ?_) | (apply cx71; refine kl (hA) ?_) | (apply cx71; refine kl (hO) ?_) | (apply cx71; refine kl (hB) ?_) | refine And.intro (by omega) (Exists.intro ((((blC c n).1 + 1) % n : Nat) : Int) (And.intro (Int.tmod_eq_emod_of_nonneg (by omega)) ?_)) | refine Exists.intro _ (Exists.intro (cs true ([⟨(((blC c n).1 + 1) % n : Nat), true⟩] : List By)) (And.intro rfl (And.intro ⟨Nat.le_refl _, bgb (by omega), bg (by omega)⟩ (apE (o := true) (xs := ([⟨((blC c n).1 : Nat), true⟩] : List By)) ?_)))) | refine k0 ?_ | refine jA fun _ => ?_ | refine jB fun _ => ?_ | refine kC (fun _ => ?_) fun _ => ?_ | refine jst ?_ | exact ⟨rfl, rfl⟩ | exact jV | fail))
        all_goals ((conv => whnf); exact ⟨by first | (simp only [*]; done) | (simp only [*]; rfl), rfl⟩)

theorem cx107 {P : Program} {X : FuncId → List Arg → List (Bool × List Cell) → List (Option (List Cell)) → Prop} {a : List Arg} {Q : List (Bool × List Cell) → List (Option (List Cell)) → Prop} (h : ∃ b vals outs, a = b ∧ D P X (.call 107 b vals outs) ∧ Q vals outs) : CallS P X 107 a Q := ⟨h⟩

theorem shB_3 {c : Cur} : shB c 3 = (⟨3, 0, (sIC c [⟨#[]⟩, ⟨#[97]⟩, ⟨#[98]⟩, ⟨#[97, 98]⟩, ⟨#[0]⟩]).1⟩, (sIC c [⟨#[]⟩, ⟨#[97]⟩, ⟨#[98]⟩, ⟨#[97, 98]⟩, ⟨#[0]⟩]).2) := if_pos rfl

theorem shB_4 {c : Cur} : shB c 4 = (⟨4, (blC c 2).1, ⟨#[]⟩⟩, (blC c 2).2) := by
  unfold shB; rw [if_neg (by decide), if_pos rfl]

theorem shB_d {c : Cur} {t : Int} (h : ¬ t = 3) (h2 : ¬ t = 4) : shB c t = (⟨t, (inC c [0, 1, 2, 3, 4, 5, -1]).1, ⟨#[]⟩⟩, (inC c [0, 1, 2, 3, 4, 5, -1]).2) := by
  unfold shB; rw [if_neg h, if_neg h2]

theorem shC_1 {c : Cur} {n : ByteArray} {t : Int} (h : decide ((blC c 4).1 = 0) = true) : shC c ⟨n, t, true⟩ = (⟨0, 0, ⟨#[]⟩⟩, (blC c 4).2) := by
  unfold shC; rw [if_pos rfl, if_pos h]

theorem shC_2 {c : Cur} {n : ByteArray} {t : Int} (h : decide ((blC c 4).1 = 0) = false) : shC c ⟨n, t, true⟩ = shB (blC c 4).2 t := by
  unfold shC; rw [if_pos rfl, if_neg (by rw [show (onC c 4).1 = false from h]; decide)]

theorem shC_3 {c : Cur} {n : ByteArray} {t : Int} : shC c ⟨n, t, false⟩ = shB c t := by
  unfold shC; rw [if_neg (by simp)]

set_option maxHeartbeats 2000000 in
set_option maxRecDepth 100000 in
theorem tx103 {c : Cur} {x : Cl} (hc : CurOk c := by first | assumption | omega | (simp; done) | (simp; omega)) : T 103 [aC c, .val true (coC x)] [(true, vlC (shC c x).1)] [some (cuC (shC c x).2), none] := by
  refine w_call md [] Tryz.func103 rfl ?_
  obtain ⟨nm, ty, nu⟩ := x
  have k1 := blC_ok (n := 4) hc
  have hO := tx71 (c := c) (n := 4) hc (by decide)
  cases nu
  · rw [shC_3]
    by_cases t3 : ty = 3
    · subst t3
      rw [shB_3]
      repeat' ((conv => whnf); (first | (apply cx106; refine kl (tx106 (c := c) (l := [⟨#[]⟩, ⟨#[97]⟩, ⟨#[98]⟩, ⟨#[97, 98]⟩, ⟨#[0]⟩])) ?_) | refine And.intro ⟨rfl, rfl, rfl⟩ ?_ | refine k0 ?_ | refine jA fun _ => ?_ | refine jB fun _ => ?_ | refine kC (fun _ => ?_) fun _ => ?_ | (apply cx71; refine kl tx71 ?_) | (apply cx72; refine kl tx72 ?_) | (apply cx66; refine kl tx66 ?_) | refine jst ?_ | exact ⟨rfl, rfl⟩ | exact jV | fail))
    · by_cases t4 : ty = 4
      · subst t4
        rw [shB_4]
        repeat' ((conv => whnf); (first | (apply cx72; refine kl (tx72 (c := c) (n := 2)) ?_) | refine k0 ?_ | refine jA fun _ => ?_ | refine jB fun _ => ?_ | refine kC (fun _ => ?_) fun _ => ?_ | (apply cx71; refine kl tx71 ?_) | (apply cx106; refine kl tx106 ?_) | (apply cx66; refine kl tx66 ?_) | refine jst ?_ | exact ⟨rfl, rfl⟩ | exact jV | fail))
      · rw [shB_d t3 t4]
        repeat' ((conv => whnf); (first | (apply cx66; refine kl (tx66 (c := c) (l := [0, 1, 2, 3, 4, 5, -1])) ?_) | refine And.intro ⟨rfl, rfl, rfl⟩ ?_ | refine k0 ?_ | refine jA fun _ => ?_ | refine jB fun _ => ?_ | refine kC (fun _ => ?_) fun _ => ?_ | (apply cx71; refine kl tx71 ?_) | (apply cx106; refine kl tx106 ?_) | (apply cx72; refine kl tx72 ?_) | refine jst ?_ | exact ⟨rfl, rfl⟩ | exact jV | fail))
  · cases h4 : decide ((blC c 4).1 = 0)
    · rw [h4] at hO
      rw [shC_2 h4]
      by_cases t3 : ty = 3
      · subst t3
        rw [shB_3]
        repeat' ((conv => whnf); (first | (apply cx71; refine kl (hO) ?_) | (apply cx106; refine kl (tx106 (c := (blC c 4).2) (l := [⟨#[]⟩, ⟨#[97]⟩, ⟨#[98]⟩, ⟨#[97, 98]⟩, ⟨#[0]⟩])) ?_) | refine And.intro ⟨rfl, rfl, rfl⟩ ?_ | refine k0 ?_ | refine jA fun _ => ?_ | refine jB fun _ => ?_ | refine kC (fun _ => ?_) fun _ => ?_ | (apply cx72; refine kl tx72 ?_) | (apply cx66; refine kl tx66 ?_) | refine jst ?_ | exact ⟨rfl, rfl⟩ | exact jV | fail))
      · by_cases t4 : ty = 4
        · subst t4
          rw [shB_4]
          repeat' ((conv => whnf); (first | (apply cx71; refine kl (hO) ?_) | (apply cx72; refine kl (tx72 (c := (blC c 4).2) (n := 2)) ?_) | refine k0 ?_ | refine jA fun _ => ?_ | refine jB fun _ => ?_ | refine kC (fun _ => ?_) fun _ => ?_ | (apply cx106; refine kl tx106 ?_) | (apply cx66; refine kl tx66 ?_) | refine jst ?_ | exact ⟨rfl, rfl⟩ | exact jV | fail))
        · rw [shB_d t3 t4]
          repeat' ((conv => whnf); (first | (apply cx71; refine kl (hO) ?_) | (apply cx66; refine kl (tx66 (c := (blC c 4).2) (l := [0, 1, 2, 3, 4, 5, -1])) ?_) | refine And.intro ⟨rfl, rfl, rfl⟩ ?_ | refine k0 ?_ | refine jA fun _ => ?_ | refine jB fun _ => ?_ | refine kC (fun _ => ?_) fun _ => ?_ | (apply cx106; refine kl tx106 ?_) | (apply cx72; refine kl tx72 ?_) | refine jst ?_ | exact ⟨rfl, rfl⟩ | exact jV | fail))
    · rw [h4] at hO
      rw [shC_1 h4]
      repeat' ((conv => whnf); (first | (apply cx71; refine kl (hO) ?_) | refine k0 ?_ | refine jA fun _ => ?_ | refine jB fun _ => ?_ | refine kC (fun _ => ?_) fun _ => ?_ | (apply cx106; refine kl tx106 ?_) | (apply cx72; refine kl tx72 ?_) | (apply cx66; refine kl tx66 ?_) | refine jst ?_ | exact ⟨rfl, rfl⟩ | exact jV | fail))

theorem cx103 {P : Program} {X : FuncId → List Arg → List (Bool × List Cell) → List (Option (List Cell)) → Prop} {a : List Arg} {Q : List (Bool × List Cell) → List (Option (List Cell)) → Prop} (h : ∃ b vals outs, a = b ∧ D P X (.call 103 b vals outs) ∧ Q vals outs) : CallS P X 103 a Q := ⟨h⟩

theorem rwC_s1 {c : Cur} {l : List Cl} {i : Nat} {x : List Vl × Cur} (h : i < l.length) (e : rwC c l i = x) : rwC c l (i + 1) = (x.1 ++ [(shC x.2 l[i]).1], (shC x.2 l[i]).2) := by
  have e2 : l.getD i ⟨⟨#[]⟩, 0, false⟩ = l[i] := by rw [List.getD_eq_getElem?_getD, List.getElem?_eq_getElem h]; rfl
  show ((rwC c l i).1 ++ [(shC (rwC c l i).2 (l.getD i ⟨⟨#[]⟩, 0, false⟩)).1], (shC (rwC c l i).2 (l.getD i ⟨⟨#[]⟩, 0, false⟩)).2) = _
  rw [e, e2]

set_option maxHeartbeats 2000000 in
set_option maxRecDepth 100000 in
theorem tx67 {c : Cur} {d : Df} (hc : CurOk c := by first | assumption | omega | (simp; done) | (simp; omega)) (hd : d.cols.length ≤ 100 := by first | assumption | omega | (simp; done) | (simp; omega)) : T 67 [aC c, .val true (dfC false d)] [vE (rwC c d.cols d.cols.length).1] [some (cuC (rwC c d.cols d.cols.length).2), none] := by
  refine w_call md [] Tryz.func67 rfl ?_
  repeat' ((conv => whnf); (first | refine k0 ?_ | refine jA fun _ => ?_ | refine jB fun _ => ?_ | refine kC (fun _ => ?_) fun _ => ?_ | (apply cx103; refine kl tx103 ?_) | refine jst ?_ | exact ⟨rfl, rfl⟩ | exact jV | fail))
  conv => whnf
  refine loopk (ι := Nat × List Vl × Cur) (fun i => i.1 ≤ d.cols.length ∧ rwC c d.cols i.1 = i.2) (fun i => d.cols.length - i.1) (0, [], c) [0, 3] (fun i => [(5, .v false [.ref 3 0 i.2.1.length 3]), (6, .v false [i6 i.1])]) [some fun i => some (true, cuC i.2.2), none, none, some fun i => nE i.2.1] ?_
  refine ⟨⟨Nat.zero_le _, rfl⟩, ?_, fun z hz => ?_⟩
  · exact jw []
  · obtain ⟨i, l, e⟩ := z
    obtain ⟨hi, hx⟩ := hz
    simp only at hi hx
    have hk := rwC_ok (l := d.cols) hc (i := i)
    have hl := rwC_len (c := c) (l := d.cols) (i := i)
    rw [hx] at hk hl
    simp only at hk hl
    repeat' ((conv => whnf); (first | refine k0 ?_ | (apply cx103; refine kl tx103 ?_) | refine jst ?_ | exact ⟨rfl, rfl⟩ | exact jV | fail))
    conv => whnf
    refine ⟨fun hlt => ?_, fun hge => ?_⟩
    · have hi2 : i < d.cols.length := by omega
      repeat' ((conv => whnf); (first | (apply cx103; refine kl (tx103 (c := e) (x := d.cols[i])) ?_) | refine And.intro ⟨by omega, by omega⟩ (Exists.intro _ (And.intro (rdI (i := i) (by omega) (by omega)) ?_)) | refine jap (N := cs true ([(shC e d.cols[i]).1] : List Vl)) (apE (xs := l) ?_) | refine k0 ?_ | refine jA fun _ => ?_ | refine jB fun _ => ?_ | refine kC (fun _ => ?_) fun _ => ?_ | refine jst ?_ | exact ⟨rfl, rfl⟩ | exact jV | fail))
      refine ⟨⟨(i + 1, l ++ [(shC e d.cols[i]).1], (shC e d.cols[i]).2), ⟨by simp only; omega, rwC_s1 hi2 hx⟩⟩, by simp only; omega, ?_⟩
      exact jw []
    · obtain rfl : i = d.cols.length := by omega
      rw [hx]
      repeat' ((conv => whnf); (first | refine k0 ?_ | refine jA fun _ => ?_ | refine jB fun _ => ?_ | refine kC (fun _ => ?_) fun _ => ?_ | (apply cx103; refine kl tx103 ?_) | refine jst ?_ | exact ⟨rfl, rfl⟩ | exact jV | fail))

theorem cx67 {P : Program} {X : FuncId → List Arg → List (Bool × List Cell) → List (Option (List Cell)) → Prop} {a : List Arg} {Q : List (Bool × List Cell) → List (Option (List Cell)) → Prop} (h : ∃ b vals outs, a = b ∧ D P X (.call 67 b vals outs) ∧ Q vals outs) : CallS P X 67 a Q := ⟨h⟩

theorem onT {c : Cur} {n : Nat} {b : Bool} (hb : (onC c n).1 = b) (hc : CurOk c) (hn : n ≤ 100000000) : T 71 [aC c, aI n] [vB b] [some (cuC (blC c n).2), none] := by
  have h := tx71 (c := c) (n := n) hc hn
  rwa [show decide ((blC c n).1 = 0) = b from hb] at h
end

section
open Go Go.RowKit Go.IntWalk

open Enc (sz cs)

attribute [local irreducible] IntKind.wrap

/-! ### An operation is drawn -/

attribute [local irreducible] blC inC sIC byC csR rwC ppN pkR fbN cdN

set_option maxHeartbeats 2000000 in
set_option maxRecDepth 100000 in
theorem tx38 {s : List Df} {c : Cur} (hc : CurOk c := by first | assumption | omega | (simp; done) | (simp; omega)) (hs : ScB s := by first | assumption | omega | (simp; done) | (simp; omega)) : T 38 [aC c, aE s] [(true, [i6 (opC1 s c).1.kind, i6 (opC1 s c).1.t, slE false (opC1 s c).1.row])] [some (cuC (opC1 s c).2), none] := by
  refine w_call md [] Tryz.func38 rfl ?_
  have k1 := inC_ok (l := [1, 1, 1, 2, 2, 3, 4]) hc
  have hp := hs.pos
  have hl := hs.len
  have hk : (opT s c).1 < s.length := blC_lt hp
  have k2 : CurOk (opT s c).2 := blC_ok k1
  have hd := (hs.df _ (List.getElem_mem hk))
  have hdz : zDf s[(opT s c).1] ≤ 2000000 := Nat.le_trans hd.z (by decide)
  have hdc := hd.cols
  have hB : T 72 [aC (opK c).2, aI (s.length : Nat)] [vI ((opT s c).1 : Nat)] [some (cuC (opT s c).2), none] := tx72 k1 (by omega)
  have hI : T 66 [aC c, aO ([1, 1, 1, 2, 2, 3, 4] : List Int)] [vI (opK c).1] [some (cuC (opK c).2), some (cs true ([1, 1, 1, 2, 2, 3, 4] : List Int))] := tx66 hc (by decide)
  have hR : T 67 [aC (opT s c).2, .val true (dfC false s[(opT s c).1])] [vE (opR s c).1] [some (cuC (opR s c).2), none] := by
    have h := tx67 (c := (opT s c).2) (d := s[(opT s c).1]) k2 (by omega)
    unfold opR
    rw [gds hk]
    exact h
  have hrl : (opR s c).1.length ≤ 7 := (opR_b hs).1
  have e1 : (opC1 s c).2 = (opR s c).2 := rfl
  have e2 : (opC1 s c).1.kind = (opK c).1 := rfl
  have e3 : (opC1 s c).1.t = ((opT s c).1 : Nat) := rfl
  rw [e1, e2, e3]
  generalize hkd : (opK c).1 = kd at *
  by_cases h4 : kd = 4
  · have e4 : (opC1 s c).1.row = pkR (ppN s[(opT s c).1]) (opR s c).1 := by
      show (if (opK c).1 = 4 then _ else _) = _
      rw [if_pos (hkd.trans h4), gds hk]
    rw [e4]
    generalize (opT s c).1 = t at *
    generalize (opR s c).1 = r at *
    subst h4
    repeat' ((conv => whnf); (first | (apply cx66; refine kl (hI) ?_) | (apply cx72; refine kl (hB) ?_) | refine And.intro ⟨rfl, rfl, rfl⟩ ?_ | refine And.intro ⟨by omega, by omega⟩ (Exists.intro _ (And.intro (rdI (i := t) (by omega) (by omega)) ?_)) | (apply cx67; refine kl (hR) ?_) | (apply cx74; refine kl (tx74 (d := s[t]) (r := r)) ?_) | refine bstep (w_frz 118 (pkR (ppN s[t]) r)) ?_ | refine ⟨snc, cs false (pkR (ppN s[t]) r), cs_whole, ?_⟩ | refine k0 ?_ | refine jA fun _ => ?_ | refine jB fun _ => ?_ | refine kC (fun _ => ?_) fun _ => ?_ | refine jst ?_ | exact ⟨rfl, rfl⟩ | exact jV | fail))
  · have e4 : (opC1 s c).1.row = (opR s c).1 := by
      show (if (opK c).1 = 4 then _ else _) = _
      rw [if_neg (fun q => h4 (hkd.symm.trans q))]
    rw [e4]
    generalize (opT s c).1 = t at *
    generalize (opR s c).1 = r at *
    repeat' ((conv => whnf); (first | (apply cx66; refine kl (hI) ?_) | (apply cx72; refine kl (hB) ?_) | refine And.intro ⟨rfl, rfl, rfl⟩ ?_ | refine And.intro ⟨by omega, by omega⟩ (Exists.intro _ (And.intro (rdI (i := t) (by omega) (by omega)) ?_)) | (apply cx67; refine kl (hR) ?_) | refine bstep (w_frz 5 (r)) ?_ | refine ⟨snc, cs false r, cs_whole, ?_⟩ | refine k0 ?_ | refine jA fun _ => ?_ | refine jB fun _ => ?_ | refine kC (fun _ => ?_) fun _ => ?_ | (apply cx74; refine kl tx74 ?_) | refine jst ?_ | exact ⟨rfl, rfl⟩ | exact jV | fail))

theorem cx38 {P : Program} {X : FuncId → List Arg → List (Bool × List Cell) → List (Option (List Cell)) → Prop} {a : List Arg} {Q : List (Bool × List Cell) → List (Option (List Cell)) → Prop} (h : ∃ b vals outs, a = b ∧ D P X (.call 38 b vals outs) ∧ Q vals outs) : CallS P X 38 a Q := ⟨h⟩
end

section
open Go Go.RowKit Go.IntWalk

open Enc (sz cs)

attribute [local irreducible] IntKind.wrap

/-! ### A row put in its place -/

noncomputable abbrev sgU (l : List Prt) (row : List Vl) (rows : List (List Vl)) (i : Nat) : List (List Vl) × Bool := (rows.take i).foldl (sgS l row) ([], false)

theorem sgU_suc {l : List Prt} {row : List Vl} {rows : List (List Vl)} {i : Nat} {x y : List (List Vl) × Bool} (h : i < rows.length) (e : sgU l row rows i = x) (e2 : sgS l row x rows[i] = y) : sgU l row rows (i + 1) = y := by
  unfold sgU at *
  rw [take_one h, List.foldl_append, e]
  exact e2

theorem sgS_t1 {l : List Prt} {row r : List Vl} {out : List (List Vl)} (h : pkR l r = pkR l row) : sgS l row (out, true) r = (out, true) := by
  simp only [sgS, if_pos h, Bool.true_eq_false, false_and, if_false]

theorem sgS_t2 {l : List Prt} {row r : List Vl} {out : List (List Vl)} (h : ¬ pkR l r = pkR l row) : sgS l row (out, true) r = (out ++ [r], true) := by
  simp only [sgS, if_neg h, Bool.true_eq_false, false_and, if_false]

theorem sgS_f1 {l : List Prt} {row r : List Vl} {out : List (List Vl)} (h : ¬ pkR l r = pkR l row) (h2 : lkK l (pkR l r) (pkR l row) = true) : sgS l row (out, false) r = (out ++ [r], false) := by
  simp only [sgS, if_neg h, h2, Bool.true_eq_false, and_false, if_false]

theorem sgS_f2 {l : List Prt} {row r : List Vl} {out : List (List Vl)} (h : pkR l r = pkR l row) (h2 : lkK l (pkR l r) (pkR l row) = false) : sgS l row (out, false) r = (out ++ [row], true) := by
  simp only [sgS, if_pos h, h2, and_self, if_true]

theorem sgS_f3 {l : List Prt} {row r : List Vl} {out : List (List Vl)} (h : ¬ pkR l r = pkR l row) (h2 : lkK l (pkR l r) (pkR l row) = false) : sgS l row (out, false) r = (out ++ [row] ++ [r], true) := by
  simp only [sgS, if_neg h, h2, and_self, if_true]

theorem sgU_len {l : List Prt} {row : List Vl} {rows : List (List Vl)} : ∀ {i : Nat}, i ≤ rows.length → (sgU l row rows i).1.length ≤ 2 * i
  | 0, _ => by simp [sgU]
  | i + 1, h => by
    have ih := sgU_len (l := l) (row := row) (i := i) (Nat.le_of_succ_le h)
    rw [sgU_suc (x := sgU l row rows i) h rfl rfl]
    generalize sgU l row rows i = x at *
    unfold sgS
    simp only
    split <;> split <;> first | omega | (simp only [List.length_append, List.length_cons, List.length_nil]; omega)

theorem seS_n {l : List Prt} {row : List Vl} {rows out : List (List Vl)} {b : Bool} (h : sgU l row rows rows.length = (out, b)) : seS l rows row = fnS row (out, b) := by
  unfold sgU at h
  rw [List.take_length] at h
  unfold seS
  rw [h]

theorem vEl2 {out : List (List Vl)} {r : List Vl} {n : Nat} (h : n = out.length + 1 := by rfl) : [((false : Bool), [Cell.sl true n 1 (cs true (out ++ [r]))])] = [vE (fnS r (out, false))] := by
  subst h
  show _ = [((false : Bool), [Cell.sl true (out ++ [r]).length 1 (cs true (out ++ [r]))])]
  rw [List.length_append]; rfl

theorem cs_sn {out : List (List Vl)} {r : List Vl} : cs true out ++ [slE true r] ++ [] = cs true (out ++ [r]) := by
  rw [List.append_nil, Enc.app]; rfl

attribute [local irreducible] pkR ppN bOf fbN cdN rpN atN tkN moS moI clN2 lkK sgS

set_option maxHeartbeats 2000000 in
set_option maxRecDepth 100000 in
theorem tx57 {d : Df} {rows : List (List Vl)} {row : List Vl} (hd : zDf d ≤ 2000000 := by first | assumption | omega | (simp; done) | (simp; omega)) (hm : rows.length ≤ 2000000 ∧ ∀ j (hj : j < rows.length), rows[j].length ≤ 2000000 := by first | assumption | omega | (simp; done) | (simp; omega)) (hr : row.length ≤ 2000000 := by first | assumption | omega | (simp; done) | (simp; omega)) : T 57 [.val true (dfC false d), aE rows, aE row] [vE (seS (ppN d) rows row)] [none, none, none] := by
  refine w_call md [] Tryz.func57 rfl ?_
  obtain ⟨z3, z4⟩ := hm
  have hpl := ppN_len (d := d)
  have lp1 := pkR_len (l := (ppN d)) (r := row)
  repeat' ((conv => whnf); (first | (apply cx11; refine kl (tx11 (d := d)) ?_) | (apply cx74; refine kl (tx74 (d := d) (r := row)) ?_) | refine k0 ?_ | refine jA fun _ => ?_ | refine jB fun _ => ?_ | refine kC (fun _ => ?_) fun _ => ?_ | (apply cx11; refine kl tx11 ?_) | (apply cx74; refine kl tx74 ?_) | (apply cx97; refine kl tx97 ?_) | (apply cx95; refine kl tx95 ?_) | refine jst ?_ | exact ⟨rfl, rfl⟩ | exact jV | fail))
  conv => whnf
  refine loopk (ι := Nat × List (List Vl) × Bool) (fun i => i.1 ≤ rows.length ∧ sgU (ppN d) row rows i.1 = i.2) (fun i => rows.length - i.1) (0, [], false) [1, 2, 3, 8, 9] (fun i => [(7, .v false [.ref 4 0 i.2.1.length 1]), (10, .v false [b1 i.2.2]), (11, .v false [i6 i.1])]) [none, none, none, some fun _ => some (true, dfC false d), some fun i => nE i.2.1, some fun _ => nE (ppN d), some fun _ => nE (pkR (ppN d) row)] ?_
  refine ⟨⟨Nat.zero_le _, rfl⟩, ?_, fun z hz => ?_⟩
  · exact jw []
  · obtain ⟨i, out, put⟩ := z
    obtain ⟨hi, hx⟩ := hz
    simp only at hi hx
    have hol := sgU_len (l := (ppN d)) (row := row) hi
    rw [hx] at hol
    simp only at hol
    repeat' ((conv => whnf); (first | refine k0 ?_ | (apply cx11; refine kl tx11 ?_) | (apply cx74; refine kl tx74 ?_) | (apply cx97; refine kl tx97 ?_) | (apply cx95; refine kl tx95 ?_) | refine jst ?_ | exact ⟨rfl, rfl⟩ | exact jV | fail))
    conv => whnf
    refine ⟨fun hlt => ?_, fun hge => ?_⟩
    · have hi2 : i < rows.length := by omega
      have hzr := z4 i hi2
      have lp2 := pkR_len (l := (ppN d)) (r := rows[i])
      have hS : T 95 [aE (pkR (ppN d) rows[i]), aE (pkR (ppN d) row)] [vB (smR (pkR (ppN d) rows[i]) (pkR (ppN d) row))] [none, none] := tx95
      have hL : T 97 [aE (ppN d), aE (pkR (ppN d) rows[i]), aE (pkR (ppN d) row)] [vB (lkK (ppN d) (pkR (ppN d) rows[i]) (pkR (ppN d) row))] [none, none, none] := tx97
      cases e : smR (pkR (ppN d) rows[i]) (pkR (ppN d) row)
      · rw [e] at hS
        have e := bOf_f e
        cases put
        · cases e3 : lkK (ppN d) (pkR (ppN d) rows[i]) (pkR (ppN d) row)
          · rw [e3] at hL
            repeat' ((conv => whnf); (first | (apply cx74; refine kl (tx74 (d := d) (r := rows[i])) ?_) | (apply cx95; refine kl (hS) ?_) | refine And.intro ⟨by omega, by omega⟩ (Exists.intro _ (And.intro (rdI (i := i) (by omega) (by omega)) ?_)) | refine Exists.intro _ (Exists.intro (cs true (_ : List Vl)) (And.intro rfl (And.intro ⟨Nat.le_refl _, bgb (by omega), bg (by omega)⟩ (Exists.intro _ (And.intro ape (Exists.intro _ (And.intro (Nat.zero_add _) ?_))))))) | (apply cx97; refine kl (hL) ?_) | refine jap (m := 1) (N := [.ref 89 0 row.length 3]) (apR (o := true) (xs := out) ?_) | refine bstep (w_inE 91 89 (cs true (out)) row [] row.length 3 (cs1 := cs true (out ++ [row])) cs_sn) ?_ | refine jap (m := 1) (N := [.ref 93 0 rows[i].length 3]) (apR (o := true) (xs := out ++ [row]) ?_) | refine bstep (w_inE 95 93 (cs true (out ++ [row])) rows[i] [] rows[i].length 3 (cs1 := cs true (out ++ [row] ++ [rows[i]])) cs_sn) ?_ | refine k0 ?_ | refine jA fun _ => ?_ | refine jB fun _ => ?_ | refine kC (fun _ => ?_) fun _ => ?_ | (apply cx11; refine kl tx11 ?_) | (apply cx74; refine kl tx74 ?_) | (apply cx97; refine kl tx97 ?_) | (apply cx95; refine kl tx95 ?_) | refine jst ?_ | exact ⟨rfl, rfl⟩ | exact jV | fail))
            refine ⟨⟨(i + 1, out ++ [row] ++ [rows[i]], true), ⟨by simp only; omega, sgU_suc hi2 hx (sgS_f3 e e3)⟩⟩, by simp only; omega, ?_⟩
            exact jw []
          · rw [e3] at hL
            repeat' ((conv => whnf); (first | (apply cx74; refine kl (tx74 (d := d) (r := rows[i])) ?_) | (apply cx95; refine kl (hS) ?_) | refine And.intro ⟨by omega, by omega⟩ (Exists.intro _ (And.intro (rdI (i := i) (by omega) (by omega)) ?_)) | refine Exists.intro _ (Exists.intro (cs true (_ : List Vl)) (And.intro rfl (And.intro ⟨Nat.le_refl _, bgb (by omega), bg (by omega)⟩ (Exists.intro _ (And.intro ape (Exists.intro _ (And.intro (Nat.zero_add _) ?_))))))) | (apply cx97; refine kl (hL) ?_) | refine jap (m := 1) (N := [.ref 89 0 rows[i].length 3]) (apR (o := true) (xs := out) ?_) | refine bstep (w_inE 91 89 (cs true (out)) rows[i] [] rows[i].length 3 (cs1 := cs true (out ++ [rows[i]])) cs_sn) ?_ | refine k0 ?_ | refine jA fun _ => ?_ | refine jB fun _ => ?_ | refine kC (fun _ => ?_) fun _ => ?_ | (apply cx11; refine kl tx11 ?_) | (apply cx74; refine kl tx74 ?_) | (apply cx97; refine kl tx97 ?_) | (apply cx95; refine kl tx95 ?_) | refine jst ?_ | exact ⟨rfl, rfl⟩ | exact jV | fail))
            refine ⟨⟨(i + 1, out ++ [rows[i]], false), ⟨by simp only; omega, sgU_suc hi2 hx (sgS_f1 e e3)⟩⟩, by simp only; omega, ?_⟩
            exact jw []
        · repeat' ((conv => whnf); (first | (apply cx74; refine kl (tx74 (d := d) (r := rows[i])) ?_) | (apply cx95; refine kl (hS) ?_) | refine And.intro ⟨by omega, by omega⟩ (Exists.intro _ (And.intro (rdI (i := i) (by omega) (by omega)) ?_)) | refine Exists.intro _ (Exists.intro (cs true (_ : List Vl)) (And.intro rfl (And.intro ⟨Nat.le_refl _, bgb (by omega), bg (by omega)⟩ (Exists.intro _ (And.intro ape (Exists.intro _ (And.intro (Nat.zero_add _) ?_))))))) | refine jap (m := 1) (N := [.ref 89 0 rows[i].length 3]) (apR (o := true) (xs := out) ?_) | refine bstep (w_inE 91 89 (cs true (out)) rows[i] [] rows[i].length 3 (cs1 := cs true (out ++ [rows[i]])) cs_sn) ?_ | refine k0 ?_ | refine jA fun _ => ?_ | refine jB fun _ => ?_ | refine kC (fun _ => ?_) fun _ => ?_ | (apply cx11; refine kl tx11 ?_) | (apply cx74; refine kl tx74 ?_) | (apply cx97; refine kl tx97 ?_) | (apply cx95; refine kl tx95 ?_) | refine jst ?_ | exact ⟨rfl, rfl⟩ | exact jV | fail))
          refine ⟨⟨(i + 1, out ++ [rows[i]], true), ⟨by simp only; omega, sgU_suc hi2 hx (sgS_t2 e)⟩⟩, by simp only; omega, ?_⟩
          exact jw []
      · rw [e] at hS
        have e := bOf_t e
        cases put
        · have e3 : lkK (ppN d) (pkR (ppN d) rows[i]) (pkR (ppN d) row) = false := by rw [e]; exact lkK_ir
          rw [e3] at hL
          repeat' ((conv => whnf); (first | (apply cx74; refine kl (tx74 (d := d) (r := rows[i])) ?_) | (apply cx95; refine kl (hS) ?_) | refine And.intro ⟨by omega, by omega⟩ (Exists.intro _ (And.intro (rdI (i := i) (by omega) (by omega)) ?_)) | refine Exists.intro _ (Exists.intro (cs true (_ : List Vl)) (And.intro rfl (And.intro ⟨Nat.le_refl _, bgb (by omega), bg (by omega)⟩ (Exists.intro _ (And.intro ape (Exists.intro _ (And.intro (Nat.zero_add _) ?_))))))) | (apply cx97; refine kl (hL) ?_) | refine jap (m := 1) (N := [.ref 89 0 row.length 3]) (apR (o := true) (xs := out) ?_) | refine bstep (w_inE 91 89 (cs true (out)) row [] row.length 3 (cs1 := cs true (out ++ [row])) cs_sn) ?_ | refine k0 ?_ | refine jA fun _ => ?_ | refine jB fun _ => ?_ | refine kC (fun _ => ?_) fun _ => ?_ | (apply cx11; refine kl tx11 ?_) | (apply cx74; refine kl tx74 ?_) | (apply cx97; refine kl tx97 ?_) | (apply cx95; refine kl tx95 ?_) | refine jst ?_ | exact ⟨rfl, rfl⟩ | exact jV | fail))
          refine ⟨⟨(i + 1, out ++ [row], true), ⟨by simp only; omega, sgU_suc hi2 hx (sgS_f2 e e3)⟩⟩, by simp only; omega, ?_⟩
          exact jw []
        · repeat' ((conv => whnf); (first | (apply cx74; refine kl (tx74 (d := d) (r := rows[i])) ?_) | (apply cx95; refine kl (hS) ?_) | refine And.intro ⟨by omega, by omega⟩ (Exists.intro _ (And.intro (rdI (i := i) (by omega) (by omega)) ?_)) | refine Exists.intro _ (Exists.intro (cs true (_ : List Vl)) (And.intro rfl (And.intro ⟨Nat.le_refl _, bgb (by omega), bg (by omega)⟩ (Exists.intro _ (And.intro ape (Exists.intro _ (And.intro (Nat.zero_add _) ?_))))))) | refine k0 ?_ | refine jA fun _ => ?_ | refine jB fun _ => ?_ | refine kC (fun _ => ?_) fun _ => ?_ | (apply cx11; refine kl tx11 ?_) | (apply cx74; refine kl tx74 ?_) | (apply cx97; refine kl tx97 ?_) | (apply cx95; refine kl tx95 ?_) | refine jst ?_ | exact ⟨rfl, rfl⟩ | exact jV | fail))
          refine ⟨⟨(i + 1, out, true), ⟨by simp only; omega, sgU_suc hi2 hx (sgS_t1 e)⟩⟩, by simp only; omega, ?_⟩
          exact jw []
    · obtain rfl : i = rows.length := by omega
      have hn := seS_n hx
      cases put
      · repeat' ((conv => whnf); (first | refine Exists.intro _ (Exists.intro (cs true (_ : List Vl)) (And.intro rfl (And.intro ⟨Nat.le_refl _, bgb (by omega), bg (by omega)⟩ (Exists.intro _ (And.intro ape (Exists.intro _ (And.intro (Nat.zero_add _) ?_))))))) | refine jap (m := 1) (N := [.ref 8 0 row.length 3]) (apR (o := true) (xs := out) ?_) | refine bstep (w_inE 10 8 (cs true (out)) row [] row.length 3 (cs1 := cs true (out ++ [row])) cs_sn) ?_ | refine k0 ?_ | refine jA fun _ => ?_ | refine jB fun _ => ?_ | refine kC (fun _ => ?_) fun _ => ?_ | (apply cx11; refine kl tx11 ?_) | (apply cx74; refine kl tx74 ?_) | (apply cx97; refine kl tx97 ?_) | (apply cx95; refine kl tx95 ?_) | refine jst ?_ | exact ⟨rfl, rfl⟩ | exact jV | fail))
        exact ⟨by rw [hn]; exact vEl2, rfl⟩
      · repeat' ((conv => whnf); (first | refine k0 ?_ | refine jA fun _ => ?_ | refine jB fun _ => ?_ | refine kC (fun _ => ?_) fun _ => ?_ | (apply cx11; refine kl tx11 ?_) | (apply cx74; refine kl tx74 ?_) | (apply cx97; refine kl tx97 ?_) | (apply cx95; refine kl tx95 ?_) | refine jst ?_ | exact ⟨rfl, rfl⟩ | exact jV | fail))
        exact ⟨by rw [hn]; rfl, rfl⟩

theorem cx57 {P : Program} {X : FuncId → List Arg → List (Bool × List Cell) → List (Option (List Cell)) → Prop} {a : List Arg} {Q : List (Bool × List Cell) → List (Option (List Cell)) → Prop} (h : ∃ b vals outs, a = b ∧ D P X (.call 57 b vals outs) ∧ Q vals outs) : CallS P X 57 a Q := ⟨h⟩
end

section
open Go Go.RowKit Go.IntWalk

open Enc (sz cs)

attribute [local irreducible] IntKind.wrap

/-! ### An operation, as the document has it -/

attribute [local irreducible] pkR ppN bOf fbN cdN rpN atN tkN moS moI clN2 lkK seS ofT ofN acT nrN isN thN kyD

theorem mixL {A C : List Cell} {c : Cell} {k : Nat} (h : A.length = k) : cut (A ++ [c] ++ C) (k * 1 + 0) 1 = some [c] := by
  rw [Nat.mul_one]
  exact cutA h.symm

theorem mixP {A C : List Cell} {c c' : Cell} {k : Nat} (h : A.length = k) : put (A ++ [c] ++ C) (k * 1 + 0) [c'] = some (A ++ [c'] ++ C) := by
  rw [Nat.mul_one]
  exact put_mid h.symm (put_all rfl)

theorem csA_len {m : Tbs} {k : Nat} (h : k < m.length) : (cs true (m.take k)).length = k := by
  rw [cs_len, List.length_take]; show min k m.length * 1 = k; omega

theorem tabSplit {m : Tbs} {k : Nat} (h : k < m.length) : cs true m = cs true (m.take k) ++ [slE true m[k]] ++ cs true (m.drop (k + 1)) := cs_split h

set_option maxHeartbeats 2000000 in
set_option maxRecDepth 100000 in
theorem tx15 {s : List Df} {m : Tbs} {kd t : Int} {row : List Vl} (hs : zSc s ≤ 2000000 := by first | assumption | omega | (simp; done) | (simp; omega)) (hm : zMdb m + zRow row ≤ 1900000 := by first | assumption | omega | (simp; done) | (simp; omega)) : T 15 [aE s, .val true [slE false m], .val true [i6 kd, i6 t, slE false row]] [(true, [slE false (apN s m ⟨kd, t, row⟩).1]), vI (apN s m ⟨kd, t, row⟩).2] [none, none, none] := by
  refine w_call md [[1], []] Tryz.func15 rfl ?_
  have hm2 : zMdb m ≤ 2000000 := by omega
  obtain ⟨q1, q2⟩ := zSc_b hs
  obtain ⟨z1, z2⟩ := zMdb_b hm2
  have hr : RvB row := RvB.of (by omega)
  have hrl := hr.1
  cases hmo : moS s m with
  | false =>
    rw [apN_1 (fun q => bft hmo q.1)]
    have hM : T 26 [aE s, .val true [slE false m]] [vB false] [none, none] := by
      have h := tx26 (s := s) (m := m)
      rwa [hmo] at h
    repeat' ((conv => whnf); (first | (apply cx26; refine kl (hM) ?_) | (apply cx51; refine kl (tx51 (m := m)) ?_) | refine bstep (w_frz 6 (m)) ?_ | refine ⟨snc, cs false m, cs_whole, ?_⟩ | refine k0 ?_ | refine jA fun _ => ?_ | refine jB fun _ => ?_ | refine kC (fun _ => ?_) fun _ => ?_ | (apply cx51; refine kl tx51 ?_) | (apply cx26; refine kl tx26 ?_) | (apply cx52; refine kl tx52 ?_) | (apply cx54; refine kl tx54 ?_) | (apply cx53; refine kl tx53 ?_) | (apply cx55; refine kl tx55 ?_) | (apply cx56; refine kl tx56 ?_) | (apply cx57; refine kl tx57 ?_) | refine jst ?_ | exact ⟨rfl, rfl⟩ | exact jV | fail))
  | true =>
    have hM : T 26 [aE s, .val true [slE false m]] [vB true] [none, none] := by
      have h := tx26 (s := s) (m := m)
      rwa [hmo] at h
    have hf := mo_fb hmo
    have hml := mo_len hmo
    have hI := tx52 (s := s) (kd := kd) (t := t) (row := row)
    cases hkd : inB kd 1 4 with
    | false =>
      rw [apN_1 (o := ⟨kd, t, row⟩) (fun q => bft hkd q.2)]
      simp only [hkd, Bool.false_eq_true, if_false] at hI
      repeat' ((conv => whnf); (first | (apply cx26; refine kl (hM) ?_) | (apply cx51; refine kl (tx51 (m := m)) ?_) | (apply cx52; refine kl (hI) ?_) | refine bstep (w_frz 6 (m)) ?_ | refine ⟨snc, cs false m, cs_whole, ?_⟩ | refine k0 ?_ | refine jA fun _ => ?_ | refine jB fun _ => ?_ | refine kC (fun _ => ?_) fun _ => ?_ | (apply cx51; refine kl tx51 ?_) | (apply cx26; refine kl tx26 ?_) | (apply cx52; refine kl tx52 ?_) | (apply cx54; refine kl tx54 ?_) | (apply cx53; refine kl tx53 ?_) | (apply cx55; refine kl tx55 ?_) | (apply cx56; refine kl tx56 ?_) | (apply cx57; refine kl tx57 ?_) | refine jst ?_ | exact ⟨rfl, rfl⟩ | exact jV | fail))
    | true =>
      simp only [hkd, if_true] at hI
      by_cases ht : inB t 0 ((s.length : Int) - 1) = true
      · have hb := inB_iff.1 ht
        obtain ⟨k, rfl⟩ : ∃ k : Nat, t = k := ⟨t.toNat, by omega⟩
        have h2 : k < s.length := by omega
        have h3 : k < m.length := by omega
        have hd := q2 k h2
        have hcd := cd_fb hf h2
        have hrw := mo_rw hmo h2 h3
        have hpl := ppN_len (d := s[k])
        have hmk := z2 k h3
        obtain ⟨z3, z4⟩ := z2 k h3
        rw [ofN_y h2] at hI
        by_cases c1 : ofT s[k] k ⟨kd, k, row⟩ = 0
        · rw [c1] at hI
          have hK := tx54 (s := s) (kd := kd) (k := k) (row := row)
          obtain ⟨key, hkey⟩ : ∃ key, kyD s[k] ⟨kd, k, row⟩ = key := ⟨_, rfl⟩
          have hkl : key.length ≤ 2000000 := by
            by_cases h4 : kd = 4
            · rw [← hkey, kyD_4 (o := ⟨kd, k, row⟩) h4]; exact hrl
            · rw [← hkey, kyD_n (o := ⟨kd, k, row⟩) h4, pkR_len]; omega
          rw [hkey] at hK
          have hA := tx53 (d := s[k]) (rows := m[k]) (key := key)
          obtain ⟨a, ha⟩ : ∃ a, atN (ppN s[k]) m[k] key = a := ⟨_, rfl⟩
          rw [ha] at hA
          have hkc : ∀ b, T 55 [.val true [i6 kd, i6 k, slE false row], aB b] [vI (thN ⟨kd, k, row⟩ b)] [none, none] := fun b => tx55 (t := k) (row := row)
          have hT : T 56 [.val true (dfC false s[k]), aE m[k], aE row] [vB (tkN s[k] m[k] row)] [none, none, none] := tx56 hcd
          by_cases hn : 0 ≤ a
          · skip
            have his := isN_y (d := s[k]) (rows := m[k]) (o := ⟨kd, k, row⟩) (by rw [hkey]; exact ha) hn
            have hC := hkc true
            by_cases c2 : thN ⟨kd, k, row⟩ true = 0
            · rw [c2] at hC
              have c3 : thN ⟨kd, k, row⟩ (isN s[k] m[k] ⟨kd, k, row⟩) = 0 := by rw [his]; exact c2
              by_cases h4 : kd = 4
              · subst h4
                have hky : row = key := by rw [← hkey, kyD_4 rfl]
                subst hky
                have hac : acT s[k] k m[k] ⟨4, k, row⟩ = 0 := acT_0 c1 c3 (.inl rfl)
                obtain ⟨j, hj⟩ : ∃ j : Nat, a = j := ⟨a.toNat, by omega⟩
                subst hj
                obtain ⟨hj2, _⟩ := atN_mem ha
                have hnr := nrN_4 (d := s[k]) (rows := m[k]) (o := ⟨4, k, row⟩) rfl ha
                have hjt : (m[k].take j).length = j := by rw [List.length_take]; omega
                have hjd : (m[k].drop (j + 1)).length = m[k].length - (j + 1) := List.length_drop
                rw [apN_y ⟨hmo, hkd⟩ h2 h3 hac, hnr]
                repeat' ((conv => whnf); (first | (apply cx26; refine kl (hM) ?_) | (apply cx51; refine kl (tx51 (m := m)) ?_) | (apply cx52; refine kl (hI) ?_) | (apply cx54; refine kl (hK) ?_) | (apply cx53; refine kl (hA) ?_) | (apply cx55; refine kl (hC) ?_) | refine And.intro ⟨by omega, by omega⟩ (Exists.intro _ (And.intro (rdI (i := k) (by omega) (by omega)) ?_)) | refine Exists.intro _ (Exists.intro _ (Exists.intro _ (And.intro rfl (And.intro bndN (And.intro (sl_to (by omega)) ?_))))) | refine Exists.intro _ (Exists.intro _ (Exists.intro _ (And.intro bndN (And.intro rfl (And.intro (sl_from (by omega)) ?_))))) | refine Exists.intro ((j + 1 : Nat) : Int) (And.intro ((i64_in _ (by omega)).trans (by omega)) ?_) | refine Exists.intro _ (Exists.intro (cs false (m[k].take j)) (And.intro rfl (And.intro ⟨Nat.le_refl _, bgb (by omega), bg (by omega)⟩ (Exists.intro _ (And.intro ape (Exists.intro _ (And.intro (Nat.zero_add _) ?_))))))) | refine jap (N := cs false (m[k].drop (j + 1))) (apE (o := false) (xs := m[k].take j) (ys := m[k].drop (j + 1)) ?_) | refine bstep (w_outE 6 (cs true (m.take k)) m[k] (cs true (m.drop (k + 1))) 1 (h1 := tabSplit h3)) ?_ | refine bstep (w_inF true 6 8 (cs true (m.take k)) m[k] (cs true (m.drop (k + 1))) m[k].length 1 rfl) ?_ | refine ko (mixL (csA_len h3)) ?_ | refine ko (mixP (csA_len h3)) ?_ | refine bstep (w_inF false 6 410 (cs true (m.take k)) (m[k].take j ++ m[k].drop (j + 1)) (cs true (m.drop (k + 1))) (m[k].take j ++ m[k].drop (j + 1)).length 1 rfl) ?_ | refine bstep (w_freeze 6 rfl (csTab (y := m[k].take j ++ m[k].drop (j + 1)) h3)) ?_ | refine ⟨snc, cs false (m.set k (m[k].take j ++ m[k].drop (j + 1))), cs_wset, ?_⟩ | refine k0 ?_ | refine jA fun _ => ?_ | refine jB fun _ => ?_ | refine kC (fun _ => ?_) fun _ => ?_ | (apply cx51; refine kl tx51 ?_) | (apply cx26; refine kl tx26 ?_) | (apply cx52; refine kl tx52 ?_) | (apply cx54; refine kl tx54 ?_) | (apply cx53; refine kl tx53 ?_) | (apply cx55; refine kl tx55 ?_) | (apply cx56; refine kl tx56 ?_) | (apply cx57; refine kl tx57 ?_) | refine jst ?_ | exact ⟨rfl, rfl⟩ | exact jV | fail))
                exact ⟨congrArg (fun c => [(true, [c]), vI 0]) sl_set, rfl⟩
              · cases htk : tkN s[k] m[k] row
                · rw [htk] at hT
                  have hac : acT s[k] k m[k] ⟨kd, k, row⟩ = 0 := acT_0 c1 c3 (.inr htk)
                  have hnr := nrN_n (d := s[k]) (rows := m[k]) (o := ⟨kd, k, row⟩) h4
                  rw [apN_y ⟨hmo, hkd⟩ h2 h3 hac, hnr]
                  repeat' ((conv => whnf); (first | (apply cx26; refine kl (hM) ?_) | (apply cx51; refine kl (tx51 (m := m)) ?_) | (apply cx52; refine kl (hI) ?_) | (apply cx54; refine kl (hK) ?_) | (apply cx53; refine kl (hA) ?_) | (apply cx55; refine kl (hC) ?_) | refine And.intro ⟨by omega, by omega⟩ (Exists.intro _ (And.intro (rdI (i := k) (by omega) (by omega)) ?_)) | (apply cx56; refine kl (hT) ?_) | (apply cx57; refine kl (tx57 (d := s[k]) (rows := m[k]) (row := row)) ?_) | refine ko (ptTab h3) ?_ | refine bstep (w_inF true 6 137 (cs true (m.take k)) (seS (ppN s[k]) m[k] row) (cs true (m.drop (k + 1))) (seS (ppN s[k]) m[k] row).length 1 rfl) ?_ | refine bstep (w_freeze 6 rfl (csTab (y := seS (ppN s[k]) m[k] row) h3)) ?_ | refine ⟨snc, cs false (m.set k (seS (ppN s[k]) m[k] row)), cs_wset, ?_⟩ | refine k0 ?_ | refine jA fun _ => ?_ | refine jB fun _ => ?_ | refine kC (fun _ => ?_) fun _ => ?_ | (apply cx51; refine kl tx51 ?_) | (apply cx26; refine kl tx26 ?_) | (apply cx52; refine kl tx52 ?_) | (apply cx54; refine kl tx54 ?_) | (apply cx53; refine kl tx53 ?_) | (apply cx55; refine kl tx55 ?_) | (apply cx56; refine kl tx56 ?_) | (apply cx57; refine kl tx57 ?_) | refine jst ?_ | exact ⟨rfl, rfl⟩ | exact jV | fail))
                  exact ⟨congrArg (fun c => [(true, [c]), vI 0]) sl_set, rfl⟩
                · rw [htk] at hT
                  have h5 := acT_5 (o := ⟨kd, k, row⟩) c1 c3 h4 htk
                  rw [apN_e ⟨hmo, hkd⟩ h2 h3 (by rw [h5]; decide), h5]
                  repeat' ((conv => whnf); (first | (apply cx26; refine kl (hM) ?_) | (apply cx51; refine kl (tx51 (m := m)) ?_) | (apply cx52; refine kl (hI) ?_) | (apply cx54; refine kl (hK) ?_) | (apply cx53; refine kl (hA) ?_) | (apply cx55; refine kl (hC) ?_) | refine And.intro ⟨by omega, by omega⟩ (Exists.intro _ (And.intro (rdI (i := k) (by omega) (by omega)) ?_)) | (apply cx56; refine kl (hT) ?_) | refine bstep (w_frz 6 (m)) ?_ | refine ⟨snc, cs false m, cs_whole, ?_⟩ | refine k0 ?_ | refine jA fun _ => ?_ | refine jB fun _ => ?_ | refine kC (fun _ => ?_) fun _ => ?_ | (apply cx51; refine kl tx51 ?_) | (apply cx26; refine kl tx26 ?_) | (apply cx52; refine kl tx52 ?_) | (apply cx54; refine kl tx54 ?_) | (apply cx53; refine kl tx53 ?_) | (apply cx55; refine kl tx55 ?_) | (apply cx56; refine kl tx56 ?_) | (apply cx57; refine kl tx57 ?_) | refine jst ?_ | exact ⟨rfl, rfl⟩ | exact jV | fail))
            · rw [apN_e ⟨hmo, hkd⟩ h2 h3 (by rw [acT_t c1 (by rw [his]; exact c2), his]; exact c2), acT_t c1 (by rw [his]; exact c2), his]
              generalize thN ⟨kd, k, row⟩ true = c at *
              repeat' ((conv => whnf); (first | (apply cx26; refine kl (hM) ?_) | (apply cx51; refine kl (tx51 (m := m)) ?_) | (apply cx52; refine kl (hI) ?_) | (apply cx54; refine kl (hK) ?_) | (apply cx53; refine kl (hA) ?_) | (apply cx55; refine kl (hC) ?_) | refine And.intro ⟨by omega, by omega⟩ (Exists.intro _ (And.intro (rdI (i := k) (by omega) (by omega)) ?_)) | refine bstep (w_frz 6 (m)) ?_ | refine ⟨snc, cs false m, cs_whole, ?_⟩ | refine k0 ?_ | refine jA fun _ => ?_ | refine jB fun _ => ?_ | refine kC (fun _ => ?_) fun _ => ?_ | (apply cx51; refine kl tx51 ?_) | (apply cx26; refine kl tx26 ?_) | (apply cx52; refine kl tx52 ?_) | (apply cx54; refine kl tx54 ?_) | (apply cx53; refine kl tx53 ?_) | (apply cx55; refine kl tx55 ?_) | (apply cx56; refine kl tx56 ?_) | (apply cx57; refine kl tx57 ?_) | refine jst ?_ | exact ⟨rfl, rfl⟩ | exact jV | fail))
          · skip
            have his := isN_n (d := s[k]) (rows := m[k]) (o := ⟨kd, k, row⟩) (by rw [hkey]; exact ha) hn
            have hC := hkc false
            by_cases c2 : thN ⟨kd, k, row⟩ false = 0
            · rw [c2] at hC
              have c3 : thN ⟨kd, k, row⟩ (isN s[k] m[k] ⟨kd, k, row⟩) = 0 := by rw [his]; exact c2
              by_cases h4 : kd = 4
              · subst h4; rw [th_4] at c2; exact absurd c2 (by decide)
              · cases htk : tkN s[k] m[k] row
                · rw [htk] at hT
                  have hac : acT s[k] k m[k] ⟨kd, k, row⟩ = 0 := acT_0 c1 c3 (.inr htk)
                  have hnr := nrN_n (d := s[k]) (rows := m[k]) (o := ⟨kd, k, row⟩) h4
                  rw [apN_y ⟨hmo, hkd⟩ h2 h3 hac, hnr]
                  repeat' ((conv => whnf); (first | (apply cx26; refine kl (hM) ?_) | (apply cx51; refine kl (tx51 (m := m)) ?_) | (apply cx52; refine kl (hI) ?_) | (apply cx54; refine kl (hK) ?_) | (apply cx53; refine kl (hA) ?_) | (apply cx55; refine kl (hC) ?_) | refine And.intro ⟨by omega, by omega⟩ (Exists.intro _ (And.intro (rdI (i := k) (by omega) (by omega)) ?_)) | (apply cx56; refine kl (hT) ?_) | (apply cx57; refine kl (tx57 (d := s[k]) (rows := m[k]) (row := row)) ?_) | refine ko (ptTab h3) ?_ | refine bstep (w_inF true 6 137 (cs true (m.take k)) (seS (ppN s[k]) m[k] row) (cs true (m.drop (k + 1))) (seS (ppN s[k]) m[k] row).length 1 rfl) ?_ | refine bstep (w_freeze 6 rfl (csTab (y := seS (ppN s[k]) m[k] row) h3)) ?_ | refine ⟨snc, cs false (m.set k (seS (ppN s[k]) m[k] row)), cs_wset, ?_⟩ | refine k0 ?_ | refine jA fun _ => ?_ | refine jB fun _ => ?_ | refine kC (fun _ => ?_) fun _ => ?_ | (apply cx51; refine kl tx51 ?_) | (apply cx26; refine kl tx26 ?_) | (apply cx52; refine kl tx52 ?_) | (apply cx54; refine kl tx54 ?_) | (apply cx53; refine kl tx53 ?_) | (apply cx55; refine kl tx55 ?_) | (apply cx56; refine kl tx56 ?_) | (apply cx57; refine kl tx57 ?_) | refine jst ?_ | exact ⟨rfl, rfl⟩ | exact jV | fail))
                  exact ⟨congrArg (fun c => [(true, [c]), vI 0]) sl_set, rfl⟩
                · rw [htk] at hT
                  have h5 := acT_5 (o := ⟨kd, k, row⟩) c1 c3 h4 htk
                  rw [apN_e ⟨hmo, hkd⟩ h2 h3 (by rw [h5]; decide), h5]
                  repeat' ((conv => whnf); (first | (apply cx26; refine kl (hM) ?_) | (apply cx51; refine kl (tx51 (m := m)) ?_) | (apply cx52; refine kl (hI) ?_) | (apply cx54; refine kl (hK) ?_) | (apply cx53; refine kl (hA) ?_) | (apply cx55; refine kl (hC) ?_) | refine And.intro ⟨by omega, by omega⟩ (Exists.intro _ (And.intro (rdI (i := k) (by omega) (by omega)) ?_)) | (apply cx56; refine kl (hT) ?_) | refine bstep (w_frz 6 (m)) ?_ | refine ⟨snc, cs false m, cs_whole, ?_⟩ | refine k0 ?_ | refine jA fun _ => ?_ | refine jB fun _ => ?_ | refine kC (fun _ => ?_) fun _ => ?_ | (apply cx51; refine kl tx51 ?_) | (apply cx26; refine kl tx26 ?_) | (apply cx52; refine kl tx52 ?_) | (apply cx54; refine kl tx54 ?_) | (apply cx53; refine kl tx53 ?_) | (apply cx55; refine kl tx55 ?_) | (apply cx56; refine kl tx56 ?_) | (apply cx57; refine kl tx57 ?_) | refine jst ?_ | exact ⟨rfl, rfl⟩ | exact jV | fail))
            · rw [apN_e ⟨hmo, hkd⟩ h2 h3 (by rw [acT_t c1 (by rw [his]; exact c2), his]; exact c2), acT_t c1 (by rw [his]; exact c2), his]
              generalize thN ⟨kd, k, row⟩ false = c at *
              repeat' ((conv => whnf); (first | (apply cx26; refine kl (hM) ?_) | (apply cx51; refine kl (tx51 (m := m)) ?_) | (apply cx52; refine kl (hI) ?_) | (apply cx54; refine kl (hK) ?_) | (apply cx53; refine kl (hA) ?_) | (apply cx55; refine kl (hC) ?_) | refine And.intro ⟨by omega, by omega⟩ (Exists.intro _ (And.intro (rdI (i := k) (by omega) (by omega)) ?_)) | refine bstep (w_frz 6 (m)) ?_ | refine ⟨snc, cs false m, cs_whole, ?_⟩ | refine k0 ?_ | refine jA fun _ => ?_ | refine jB fun _ => ?_ | refine kC (fun _ => ?_) fun _ => ?_ | (apply cx51; refine kl tx51 ?_) | (apply cx26; refine kl tx26 ?_) | (apply cx52; refine kl tx52 ?_) | (apply cx54; refine kl tx54 ?_) | (apply cx53; refine kl tx53 ?_) | (apply cx55; refine kl tx55 ?_) | (apply cx56; refine kl tx56 ?_) | (apply cx57; refine kl tx57 ?_) | refine jst ?_ | exact ⟨rfl, rfl⟩ | exact jV | fail))
        · rw [apN_e ⟨hmo, hkd⟩ h2 h3 (by rw [acT_f c1]; exact c1), acT_f c1]
          generalize ofT s[k] k ⟨kd, k, row⟩ = c at *
          repeat' ((conv => whnf); (first | (apply cx26; refine kl (hM) ?_) | (apply cx51; refine kl (tx51 (m := m)) ?_) | (apply cx52; refine kl (hI) ?_) | refine bstep (w_frz 6 (m)) ?_ | refine ⟨snc, cs false m, cs_whole, ?_⟩ | refine k0 ?_ | refine jA fun _ => ?_ | refine jB fun _ => ?_ | refine kC (fun _ => ?_) fun _ => ?_ | (apply cx51; refine kl tx51 ?_) | (apply cx26; refine kl tx26 ?_) | (apply cx52; refine kl tx52 ?_) | (apply cx54; refine kl tx54 ?_) | (apply cx53; refine kl tx53 ?_) | (apply cx55; refine kl tx55 ?_) | (apply cx56; refine kl tx56 ?_) | (apply cx57; refine kl tx57 ?_) | refine jst ?_ | exact ⟨rfl, rfl⟩ | exact jV | fail))
      · have hnn : ¬ (0 ≤ t ∧ t.toNat < s.length) := fun q => ht (inB_iff.2 (by omega))
        rw [ofN_n (o := ⟨kd, t, row⟩) hnn] at hI
        rw [apN_2 (o := ⟨kd, t, row⟩) ⟨hmo, hkd⟩ (fun q => hnn ⟨q.1, q.2.1⟩)]
        repeat' ((conv => whnf); (first | (apply cx26; refine kl (hM) ?_) | (apply cx51; refine kl (tx51 (m := m)) ?_) | (apply cx52; refine kl (hI) ?_) | refine bstep (w_frz 6 (m)) ?_ | refine ⟨snc, cs false m, cs_whole, ?_⟩ | refine k0 ?_ | refine jA fun _ => ?_ | refine jB fun _ => ?_ | refine kC (fun _ => ?_) fun _ => ?_ | (apply cx51; refine kl tx51 ?_) | (apply cx26; refine kl tx26 ?_) | (apply cx52; refine kl tx52 ?_) | (apply cx54; refine kl tx54 ?_) | (apply cx53; refine kl tx53 ?_) | (apply cx55; refine kl tx55 ?_) | (apply cx56; refine kl tx56 ?_) | (apply cx57; refine kl tx57 ?_) | refine jst ?_ | exact ⟨rfl, rfl⟩ | exact jV | fail))

theorem cx15 {P : Program} {X : FuncId → List Arg → List (Bool × List Cell) → List (Option (List Cell)) → Prop} {a : List Arg} {Q : List (Bool × List Cell) → List (Option (List Cell)) → Prop} (h : ∃ b vals outs, a = b ∧ D P X (.call 15 b vals outs) ∧ Q vals outs) : CallS P X 15 a Q := ⟨h⟩
end

section
open Go Go.RowKit Go.IntWalk

open Enc (sz cs)

attribute [local irreducible] IntKind.wrap

/-! ### Tables whose rows are only read -/

attribute [local irreducible] pkR ppN bOf fbN cdN rpN atN tkN moS moI clN2 lkK seS ofT ofN acT nrN isN thN kyD sgS

/-- Own tables, own lists of rows, rows that are only read. -/
def csM (m : Tbs) : List Cell := m.map fun t => .sl true t.length 1 (cs false t)

@[simp] theorem csM_len {m : Tbs} : (csM m).length = m.length := List.length_map _

theorem csM_app {a b : Tbs} : csM (a ++ b) = csM a ++ csM b := List.map_append

theorem csM_ro : ∀ {m : Tbs}, roifyL (csM m) = cs false m
  | [] => rfl
  | t :: m => by
    have e : cs false (t :: m) = cs false [t] ++ cs false m := cs_cons t m
    rw [e, ← csM_ro (m := m)]
    show Cell.sl false t.length 1 (roifyL (cs false t)) :: roifyL (csM m) = _
    rw [cs_ro]; rfl

theorem csM_shal : ∀ {m : Tbs}, (csM m).all Cell.shal = true
  | [] => rfl
  | t :: m => by
    show (true && (csM m).all Cell.shal) = true
    rw [csM_shal]; rfl

theorem csM_clo : ∀ {m : Tbs}, closedL (csM m) = true
  | [] => rfl
  | t :: m => by
    show (closedL (cs false t) && closedL (csM m)) = true
    rw [cs_clo, csM_clo]; rfl

theorem csM_whole {m : Tbs} : ((csM m).drop 0).take (m.length * 1) = csM m := by
  rw [List.drop_zero, List.take_of_length_le (by rw [csM_len]; omega)]

theorem apM {l : Tbs} {N : List Cell} {n m : Nat} {K : List Cell → Nat → Prop} (h : K (csM l ++ N) (n + m)) (hn : l.length = n := by first | rfl | (simp; done) | (simp; omega)) : ∃ N', ((csM l).drop 0).take (n * 1) ++ N = N' ∧ ∃ q, n + m = q ∧ K N' q := by
  subst hn
  exact ⟨_, rfl, _, rfl, by rw [csM_whole]; exact h⟩

theorem csM_take {m : Tbs} {i : Nat} (h : i < m.length) : csM (m.take i) ++ [.sl true m[i].length 1 (cs false m[i])] ++ [] = csM (m.take (i + 1)) := by
  rw [take_one h, csM_app, List.append_nil]; rfl

theorem csF_take {t : List (List Vl)} {i : Nat} (h : i < t.length) : cs false (t.take i) ++ [slE false t[i]] ++ [] = cs false (t.take (i + 1)) := by
  rw [take_one h, Enc.app, List.append_nil]; rfl

/-- A list with elements that are only read is put within. -/
theorem w_inM {n : Nat} {t h nx tn} (i j : Nat) (A : List Cell) (xs : List (List Vl)) (C : List Cell) (k : Nat) {cs0 cs1 : List Cell} (h2 : A ++ [.sl true xs.length 1 (cs false xs)] ++ C = cs1) (hij : Nat.beq i j = false := by rfl) (hi : look none h i = some (true, cs0) := by rfl) (hj : look none h j = some (true, cs false xs) := by rfl)
    (h1 : cs0 = A ++ [.ref j 0 k 1] ++ C := by first | rfl | simp) (hk : xs.length = k := by first | rfl | simp) :
    WGh n ⟨t, h, nx, tn⟩ ⟨t, (i, some (true, cs1)) :: (j, none) :: h, nx, tn⟩ := by
  subst hk
  exact w_inl i j A C hij hi h1 h2 hj (cs_shal xs) (by rw [cs_len]; rfl) (by decide)

set_option maxHeartbeats 2000000 in
set_option maxRecDepth 100000 in
theorem t_spec_l22CopyRowsL {t : List (List Vl)} (ht : zTab t ≤ 2000000 := by first | assumption | omega | (simp; done) | (simp; omega)) : T 91 [aE t] [(false, [.sl true t.length 1 (cs false t)])] [none] := by
  refine w_call md [] Tryz.func91 rfl ?_
  obtain ⟨z1, z2⟩ := zTab_b ht
  repeat' ((conv => whnf); (first | refine k0 ?_ | refine jA fun _ => ?_ | refine jB fun _ => ?_ | refine kC (fun _ => ?_) fun _ => ?_ | refine jst ?_ | exact ⟨rfl, rfl⟩ | exact jV | fail))
  conv => whnf
  refine loopk (ι := Nat) (fun i => i ≤ t.length) (fun i => t.length - i) (0) [0] (fun i => [(3, .v false [.ref 1 0 i 1]), (4, .v false [i6 i])]) [none, some fun i => some (true, cs false (t.take i))] ?_
  refine ⟨by omega, ?_, fun i hi => ?_⟩
  · exact jw []
  · repeat' ((conv => whnf); (first | refine k0 ?_ | refine jst ?_ | exact ⟨rfl, rfl⟩ | exact jV | fail))
    conv => whnf
    refine ⟨fun hlt => ?_, fun hge => ?_⟩
    · have hi2 : i < t.length := by omega
      have hz := z2 i hi2
      repeat' ((conv => whnf); (first | refine Exists.intro _ (Exists.intro (cs true (_ : List Vl)) (And.intro rfl (And.intro ⟨Nat.le_refl _, bgb (by omega), bg (by omega)⟩ (Exists.intro _ (And.intro ape (Exists.intro _ (And.intro (Nat.zero_add _) ?_))))))) | refine Exists.intro _ (Exists.intro _ (And.intro rfl (And.intro ⟨by simp <;> omega, bgb (by omega), bg (by omega)⟩ (apR (xs := t.take i) ?_)))) | refine k0 ?_ | refine jA fun _ => ?_ | refine jB fun _ => ?_ | refine kC (fun _ => ?_) fun _ => ?_ | refine jst ?_ | exact ⟨rfl, rfl⟩ | exact jV | fail))
      refine ⟨⟨i + 1, by omega⟩, by simp only; omega, (w_inF true 5 3 (cs false (t.take i)) t[i] [] t[i].length 3 (cs1 := cs false (t.take (i + 1))) (csF_take hi2)).trans ?_⟩
      exact jw []
    · obtain rfl : i = t.length := by omega
      repeat' ((conv => whnf); (first | refine k0 ?_ | refine jA fun _ => ?_ | refine jB fun _ => ?_ | refine kC (fun _ => ?_) fun _ => ?_ | refine jst ?_ | exact ⟨rfl, rfl⟩ | exact jV | fail))
      exact ⟨by rw [List.take_length], rfl⟩

set_option maxHeartbeats 2000000 in
set_option maxRecDepth 100000 in
theorem t_spec_l22CopyL {m : Tbs} (hm : zMdb m ≤ 2000000 := by first | assumption | omega | (simp; done) | (simp; omega)) : T 51 [.val true [slE false m]] [(true, [.sl true m.length 1 (csM m)])] [none] := by
  refine w_call md [] Tryz.func51 rfl ?_
  obtain ⟨z1, z2⟩ := zMdb_b hm
  repeat' ((conv => whnf); (first | refine k0 ?_ | refine jA fun _ => ?_ | refine jB fun _ => ?_ | refine kC (fun _ => ?_) fun _ => ?_ | (apply cx91; refine kl tx91 ?_) | refine jst ?_ | exact ⟨rfl, rfl⟩ | exact jV | fail))
  conv => whnf
  refine loopk (ι := Nat) (fun i => i ≤ m.length) (fun i => m.length - i) (0) [1, 2] (fun i => [(3, .v false [.ptr 3 0]), (4, .v false [i6 i])]) [none, none, none, some fun i => some (true, [.ref 4 0 i 1]), some fun i => some (true, csM (m.take i))] ?_
  refine ⟨by omega, ?_, fun i hi => ?_⟩
  · exact (w_nilN 3 1 [] []).trans (jw [3])
  · repeat' ((conv => whnf); (first | refine k0 ?_ | (apply cx91; refine kl tx91 ?_) | refine jst ?_ | exact ⟨rfl, rfl⟩ | exact jV | fail))
    conv => whnf
    refine ⟨fun hlt => ?_, fun hge => ?_⟩
    · have hi2 : i < m.length := by omega
      have hz := zMdb_t hm hi2
      repeat' ((conv => whnf); (first | (apply cx91; refine kl ((t_spec_l22CopyRowsL (t := m[i]))) ?_) | refine jap (m := 1) (N := [.ref 133 0 m[i].length 1]) (h1 := by simp; omega) (apM (l := m.take i) ?_) | refine k0 ?_ | refine jA fun _ => ?_ | refine jB fun _ => ?_ | refine kC (fun _ => ?_) fun _ => ?_ | (apply cx91; refine kl tx91 ?_) | refine jst ?_ | exact ⟨rfl, rfl⟩ | exact jV | fail))
      refine ⟨⟨i + 1, by omega⟩, by simp only; omega, (w_inM 181 133 (csM (m.take i)) m[i] [] m[i].length (cs1 := csM (m.take (i + 1))) (csM_take hi2)).trans ?_⟩
      exact w_autoX [3] (by (conv => whnf); exact And.intro (by kernel_rfl) (And.intro (by kernel_rfl) (by repeat' (first | (with_reducible exact rfl) | ((conv => whnf); first | exact trivial | exact ⟨rfl, csM_clo, rfl⟩ | exact rfl | exact tvi (by first | omega | (dsimp only; omega) | (simp; done)) | exact tvr (by first | omega | (dsimp only; omega) | (simp; done) | (simp; omega)) | exact ⟨rfl, clo_i, by first | rfl | rw [List.take_length] | assumption⟩ | refine And.intro ?_ ?_)))))
    · obtain rfl : i = m.length := by omega
      repeat' ((conv => whnf); (first | refine ⟨⟨rfl, by simp, by decide, csM_shal⟩, ?_⟩ | refine k0 ?_ | refine jA fun _ => ?_ | refine jB fun _ => ?_ | refine kC (fun _ => ?_) fun _ => ?_ | (apply cx91; refine kl tx91 ?_) | refine jst ?_ | exact ⟨rfl, rfl⟩ | exact jV | fail))
      exact ⟨by rw [List.take_length]; rfl, rfl⟩

theorem vEl3 {out : List (List Vl)} {r : List Vl} {n : Nat} (h : n = out.length + 1 := by rfl) : [((false : Bool), [Cell.sl true n 1 (cs false (out ++ [r]))])] = [((false : Bool), [Cell.sl true (fnS r (out, false)).length 1 (cs false (fnS r (out, false)))])] := by
  subst h
  show _ = [((false : Bool), [Cell.sl true (out ++ [r]).length 1 (cs false (out ++ [r]))])]
  rw [List.length_append]; rfl

theorem csM_split {m : Tbs} {k : Nat} (h : k < m.length) : csM m = csM (m.take k) ++ [.sl true m[k].length 1 (cs false m[k])] ++ csM (m.drop (k + 1)) := by
  have e : m = m.take k ++ [m[k]] ++ m.drop (k + 1) := by
    rw [List.append_assoc, List.singleton_append, List.getElem_cons_drop, List.take_append_drop]
  have e2 := congrArg csM e
  rw [csM_app, csM_app] at e2
  exact e2

theorem csM_set {m : Tbs} {k : Nat} {y : List (List Vl)} (h : k < m.length) : csM (m.take k) ++ [.sl true y.length 1 (cs false y)] ++ csM (m.drop (k + 1)) = csM (m.set k y) := by
  have e : m.set k y = m.take k ++ [y] ++ m.drop (k + 1) := by
    rw [List.set_eq_take_append_cons_drop, if_pos h]; simp
  rw [e, csM_app, csM_app]; rfl

theorem csMA_len {m : Tbs} {k : Nat} (h : k < m.length) : (csM (m.take k)).length = k := by
  rw [csM_len, List.length_take]; omega

theorem ptM1 {m : Tbs} {k : Nat} {c : Cell} (h : k < m.length) : put (csM m) (k * 1 + 0) [c] = some (csM (m.take k) ++ [c] ++ csM (m.drop (k + 1))) := by
  rw [csM_split h]
  exact mixP (csMA_len h)

theorem slM_set {m : Tbs} {k : Nat} {y : List (List Vl)} : Cell.sl true (List.length m) 1 (csM (m.set k y)) = Cell.sl true (m.set k y).length 1 (csM (m.set k y)) := by
  rw [List.length_set]

set_option maxHeartbeats 2000000 in
set_option maxRecDepth 100000 in
theorem t_spec_l22SetL {d : Df} {rows : List (List Vl)} {row : List Vl} (hd : zDf d ≤ 2000000 := by first | assumption | omega | (simp; done) | (simp; omega)) (hm : rows.length ≤ 2000000 ∧ ∀ j (hj : j < rows.length), rows[j].length ≤ 2000000 := by first | assumption | omega | (simp; done) | (simp; omega)) (hr : row.length ≤ 2000000 := by first | assumption | omega | (simp; done) | (simp; omega)) : T 57 [.val true (dfC false d), aE rows, aE row] [(false, [.sl true (seS (ppN d) rows row).length 1 (cs false (seS (ppN d) rows row))])] [none, none, none] := by
  refine w_call md [] Tryz.func57 rfl ?_
  obtain ⟨z3, z4⟩ := hm
  have hpl := ppN_len (d := d)
  have lp1 := pkR_len (l := (ppN d)) (r := row)
  repeat' ((conv => whnf); (first | (apply cx11; refine kl (tx11 (d := d)) ?_) | (apply cx74; refine kl (tx74 (d := d) (r := row)) ?_) | refine k0 ?_ | refine jA fun _ => ?_ | refine jB fun _ => ?_ | refine kC (fun _ => ?_) fun _ => ?_ | (apply cx11; refine kl tx11 ?_) | (apply cx74; refine kl tx74 ?_) | (apply cx97; refine kl tx97 ?_) | (apply cx95; refine kl tx95 ?_) | refine jst ?_ | exact ⟨rfl, rfl⟩ | exact jV | fail))
  conv => whnf
  refine loopk (ι := Nat × List (List Vl) × Bool) (fun i => i.1 ≤ rows.length ∧ sgU (ppN d) row rows i.1 = i.2) (fun i => rows.length - i.1) (0, [], false) [1, 2, 3, 8, 9] (fun i => [(7, .v false [.ref 4 0 i.2.1.length 1]), (10, .v false [b1 i.2.2]), (11, .v false [i6 i.1])]) [none, none, none, some fun _ => some (true, dfC false d), some fun i => some (true, cs false i.2.1), some fun _ => nE (ppN d), some fun _ => nE (pkR (ppN d) row)] ?_
  refine ⟨⟨Nat.zero_le _, rfl⟩, ?_, fun z hz => ?_⟩
  · exact jw []
  · obtain ⟨i, out, put⟩ := z
    obtain ⟨hi, hx⟩ := hz
    simp only at hi hx
    have hol := sgU_len (l := (ppN d)) (row := row) hi
    rw [hx] at hol
    simp only at hol
    repeat' ((conv => whnf); (first | refine k0 ?_ | (apply cx11; refine kl tx11 ?_) | (apply cx74; refine kl tx74 ?_) | (apply cx97; refine kl tx97 ?_) | (apply cx95; refine kl tx95 ?_) | refine jst ?_ | exact ⟨rfl, rfl⟩ | exact jV | fail))
    conv => whnf
    refine ⟨fun hlt => ?_, fun hge => ?_⟩
    · have hi2 : i < rows.length := by omega
      have hzr := z4 i hi2
      have lp2 := pkR_len (l := (ppN d)) (r := rows[i])
      have hS : T 95 [aE (pkR (ppN d) rows[i]), aE (pkR (ppN d) row)] [vB (smR (pkR (ppN d) rows[i]) (pkR (ppN d) row))] [none, none] := tx95
      have hL : T 97 [aE (ppN d), aE (pkR (ppN d) rows[i]), aE (pkR (ppN d) row)] [vB (lkK (ppN d) (pkR (ppN d) rows[i]) (pkR (ppN d) row))] [none, none, none] := tx97
      cases e : smR (pkR (ppN d) rows[i]) (pkR (ppN d) row)
      · rw [e] at hS
        have e := bOf_f e
        cases put
        · cases e3 : lkK (ppN d) (pkR (ppN d) rows[i]) (pkR (ppN d) row)
          · rw [e3] at hL
            repeat' ((conv => whnf); (first | (apply cx74; refine kl (tx74 (d := d) (r := rows[i])) ?_) | (apply cx95; refine kl (hS) ?_) | refine And.intro ⟨by omega, by omega⟩ (Exists.intro _ (And.intro (rdI (i := i) (by omega) (by omega)) ?_)) | refine Exists.intro _ (Exists.intro (cs true (_ : List Vl)) (And.intro rfl (And.intro ⟨Nat.le_refl _, bgb (by omega), bg (by omega)⟩ (Exists.intro _ (And.intro ape (Exists.intro _ (And.intro (Nat.zero_add _) ?_))))))) | (apply cx97; refine kl (hL) ?_) | refine jap (m := 1) (N := [.ref 89 0 row.length 3]) (apR (o := false) (xs := out) ?_) | refine bstep (w_inF true 91 89 (cs false (out)) row [] row.length 3 (cs1 := cs false (out ++ [row])) cs_snF) ?_ | refine jap (m := 1) (N := [.ref 93 0 rows[i].length 3]) (apR (o := false) (xs := out ++ [row]) ?_) | refine bstep (w_inF true 95 93 (cs false (out ++ [row])) rows[i] [] rows[i].length 3 (cs1 := cs false (out ++ [row] ++ [rows[i]])) cs_snF) ?_ | refine k0 ?_ | refine jA fun _ => ?_ | refine jB fun _ => ?_ | refine kC (fun _ => ?_) fun _ => ?_ | (apply cx11; refine kl tx11 ?_) | (apply cx74; refine kl tx74 ?_) | (apply cx97; refine kl tx97 ?_) | (apply cx95; refine kl tx95 ?_) | refine jst ?_ | exact ⟨rfl, rfl⟩ | exact jV | fail))
            refine ⟨⟨(i + 1, out ++ [row] ++ [rows[i]], true), ⟨by simp only; omega, sgU_suc hi2 hx (sgS_f3 e e3)⟩⟩, by simp only; omega, ?_⟩
            exact jw []
          · rw [e3] at hL
            repeat' ((conv => whnf); (first | (apply cx74; refine kl (tx74 (d := d) (r := rows[i])) ?_) | (apply cx95; refine kl (hS) ?_) | refine And.intro ⟨by omega, by omega⟩ (Exists.intro _ (And.intro (rdI (i := i) (by omega) (by omega)) ?_)) | refine Exists.intro _ (Exists.intro (cs true (_ : List Vl)) (And.intro rfl (And.intro ⟨Nat.le_refl _, bgb (by omega), bg (by omega)⟩ (Exists.intro _ (And.intro ape (Exists.intro _ (And.intro (Nat.zero_add _) ?_))))))) | (apply cx97; refine kl (hL) ?_) | refine jap (m := 1) (N := [.ref 89 0 rows[i].length 3]) (apR (o := false) (xs := out) ?_) | refine bstep (w_inF true 91 89 (cs false (out)) rows[i] [] rows[i].length 3 (cs1 := cs false (out ++ [rows[i]])) cs_snF) ?_ | refine k0 ?_ | refine jA fun _ => ?_ | refine jB fun _ => ?_ | refine kC (fun _ => ?_) fun _ => ?_ | (apply cx11; refine kl tx11 ?_) | (apply cx74; refine kl tx74 ?_) | (apply cx97; refine kl tx97 ?_) | (apply cx95; refine kl tx95 ?_) | refine jst ?_ | exact ⟨rfl, rfl⟩ | exact jV | fail))
            refine ⟨⟨(i + 1, out ++ [rows[i]], false), ⟨by simp only; omega, sgU_suc hi2 hx (sgS_f1 e e3)⟩⟩, by simp only; omega, ?_⟩
            exact jw []
        · repeat' ((conv => whnf); (first | (apply cx74; refine kl (tx74 (d := d) (r := rows[i])) ?_) | (apply cx95; refine kl (hS) ?_) | refine And.intro ⟨by omega, by omega⟩ (Exists.intro _ (And.intro (rdI (i := i) (by omega) (by omega)) ?_)) | refine Exists.intro _ (Exists.intro (cs true (_ : List Vl)) (And.intro rfl (And.intro ⟨Nat.le_refl _, bgb (by omega), bg (by omega)⟩ (Exists.intro _ (And.intro ape (Exists.intro _ (And.intro (Nat.zero_add _) ?_))))))) | refine jap (m := 1) (N := [.ref 89 0 rows[i].length 3]) (apR (o := false) (xs := out) ?_) | refine bstep (w_inF true 91 89 (cs false (out)) rows[i] [] rows[i].length 3 (cs1 := cs false (out ++ [rows[i]])) cs_snF) ?_ | refine k0 ?_ | refine jA fun _ => ?_ | refine jB fun _ => ?_ | refine kC (fun _ => ?_) fun _ => ?_ | (apply cx11; refine kl tx11 ?_) | (apply cx74; refine kl tx74 ?_) | (apply cx97; refine kl tx97 ?_) | (apply cx95; refine kl tx95 ?_) | refine jst ?_ | exact ⟨rfl, rfl⟩ | exact jV | fail))
          refine ⟨⟨(i + 1, out ++ [rows[i]], true), ⟨by simp only; omega, sgU_suc hi2 hx (sgS_t2 e)⟩⟩, by simp only; omega, ?_⟩
          exact jw []
      · rw [e] at hS
        have e := bOf_t e
        cases put
        · have e3 : lkK (ppN d) (pkR (ppN d) rows[i]) (pkR (ppN d) row) = false := by rw [e]; exact lkK_ir
          rw [e3] at hL
          repeat' ((conv => whnf); (first | (apply cx74; refine kl (tx74 (d := d) (r := rows[i])) ?_) | (apply cx95; refine kl (hS) ?_) | refine And.intro ⟨by omega, by omega⟩ (Exists.intro _ (And.intro (rdI (i := i) (by omega) (by omega)) ?_)) | refine Exists.intro _ (Exists.intro (cs true (_ : List Vl)) (And.intro rfl (And.intro ⟨Nat.le_refl _, bgb (by omega), bg (by omega)⟩ (Exists.intro _ (And.intro ape (Exists.intro _ (And.intro (Nat.zero_add _) ?_))))))) | (apply cx97; refine kl (hL) ?_) | refine jap (m := 1) (N := [.ref 89 0 row.length 3]) (apR (o := false) (xs := out) ?_) | refine bstep (w_inF true 91 89 (cs false (out)) row [] row.length 3 (cs1 := cs false (out ++ [row])) cs_snF) ?_ | refine k0 ?_ | refine jA fun _ => ?_ | refine jB fun _ => ?_ | refine kC (fun _ => ?_) fun _ => ?_ | (apply cx11; refine kl tx11 ?_) | (apply cx74; refine kl tx74 ?_) | (apply cx97; refine kl tx97 ?_) | (apply cx95; refine kl tx95 ?_) | refine jst ?_ | exact ⟨rfl, rfl⟩ | exact jV | fail))
          refine ⟨⟨(i + 1, out ++ [row], true), ⟨by simp only; omega, sgU_suc hi2 hx (sgS_f2 e e3)⟩⟩, by simp only; omega, ?_⟩
          exact jw []
        · repeat' ((conv => whnf); (first | (apply cx74; refine kl (tx74 (d := d) (r := rows[i])) ?_) | (apply cx95; refine kl (hS) ?_) | refine And.intro ⟨by omega, by omega⟩ (Exists.intro _ (And.intro (rdI (i := i) (by omega) (by omega)) ?_)) | refine Exists.intro _ (Exists.intro (cs true (_ : List Vl)) (And.intro rfl (And.intro ⟨Nat.le_refl _, bgb (by omega), bg (by omega)⟩ (Exists.intro _ (And.intro ape (Exists.intro _ (And.intro (Nat.zero_add _) ?_))))))) | refine k0 ?_ | refine jA fun _ => ?_ | refine jB fun _ => ?_ | refine kC (fun _ => ?_) fun _ => ?_ | (apply cx11; refine kl tx11 ?_) | (apply cx74; refine kl tx74 ?_) | (apply cx97; refine kl tx97 ?_) | (apply cx95; refine kl tx95 ?_) | refine jst ?_ | exact ⟨rfl, rfl⟩ | exact jV | fail))
          refine ⟨⟨(i + 1, out, true), ⟨by simp only; omega, sgU_suc hi2 hx (sgS_t1 e)⟩⟩, by simp only; omega, ?_⟩
          exact jw []
    · obtain rfl : i = rows.length := by omega
      have hn := seS_n hx
      cases put
      · repeat' ((conv => whnf); (first | refine Exists.intro _ (Exists.intro (cs true (_ : List Vl)) (And.intro rfl (And.intro ⟨Nat.le_refl _, bgb (by omega), bg (by omega)⟩ (Exists.intro _ (And.intro ape (Exists.intro _ (And.intro (Nat.zero_add _) ?_))))))) | refine jap (m := 1) (N := [.ref 8 0 row.length 3]) (apR (o := false) (xs := out) ?_) | refine bstep (w_inF true 10 8 (cs false (out)) row [] row.length 3 (cs1 := cs false (out ++ [row])) cs_snF) ?_ | refine k0 ?_ | refine jA fun _ => ?_ | refine jB fun _ => ?_ | refine kC (fun _ => ?_) fun _ => ?_ | (apply cx11; refine kl tx11 ?_) | (apply cx74; refine kl tx74 ?_) | (apply cx97; refine kl tx97 ?_) | (apply cx95; refine kl tx95 ?_) | refine jst ?_ | exact ⟨rfl, rfl⟩ | exact jV | fail))
        exact ⟨by rw [hn]; exact vEl3, rfl⟩
      · repeat' ((conv => whnf); (first | refine k0 ?_ | refine jA fun _ => ?_ | refine jB fun _ => ?_ | refine kC (fun _ => ?_) fun _ => ?_ | (apply cx11; refine kl tx11 ?_) | (apply cx74; refine kl tx74 ?_) | (apply cx97; refine kl tx97 ?_) | (apply cx95; refine kl tx95 ?_) | refine jst ?_ | exact ⟨rfl, rfl⟩ | exact jV | fail))
        exact ⟨by rw [hn]; rfl, rfl⟩

attribute [local irreducible] csM

set_option maxHeartbeats 2000000 in
set_option maxRecDepth 100000 in
theorem t_spec_ApplyOpL {s : List Df} {m : Tbs} {kd t : Int} {row : List Vl} (hs : zSc s ≤ 2000000 := by first | assumption | omega | (simp; done) | (simp; omega)) (hm : zMdb m + zRow row ≤ 1900000 := by first | assumption | omega | (simp; done) | (simp; omega)) : T 15 [aE s, .val true [slE false m], .val true [i6 kd, i6 t, slE false row]] [(true, [.sl true (apN s m ⟨kd, t, row⟩).1.length 1 (csM (apN s m ⟨kd, t, row⟩).1)]), vI (apN s m ⟨kd, t, row⟩).2] [none, none, none] := by
  refine w_call md [[1], []] Tryz.func15 rfl ?_
  have hm2 : zMdb m ≤ 2000000 := by omega
  obtain ⟨q1, q2⟩ := zSc_b hs
  obtain ⟨z1, z2⟩ := zMdb_b hm2
  have hr : RvB row := RvB.of (by omega)
  have hrl := hr.1
  cases hmo : moS s m with
  | false =>
    rw [apN_1 (fun q => bft hmo q.1)]
    have hM : T 26 [aE s, .val true [slE false m]] [vB false] [none, none] := by
      have h := tx26 (s := s) (m := m)
      rwa [hmo] at h
    repeat' ((conv => whnf); (first | (apply cx26; refine kl (hM) ?_) | (apply cx51; refine kl ((t_spec_l22CopyL (m := m))) ?_) | refine And.intro ⟨rfl, (by simp), by decide, csM_shal⟩ ?_ | refine k0 ?_ | refine jA fun _ => ?_ | refine jB fun _ => ?_ | refine kC (fun _ => ?_) fun _ => ?_ | (apply cx51; refine kl tx51 ?_) | (apply cx26; refine kl tx26 ?_) | (apply cx52; refine kl tx52 ?_) | (apply cx54; refine kl tx54 ?_) | (apply cx53; refine kl tx53 ?_) | (apply cx55; refine kl tx55 ?_) | (apply cx56; refine kl tx56 ?_) | (apply cx57; refine kl tx57 ?_) | refine jst ?_ | exact ⟨rfl, rfl⟩ | exact jV | fail))
  | true =>
    have hM : T 26 [aE s, .val true [slE false m]] [vB true] [none, none] := by
      have h := tx26 (s := s) (m := m)
      rwa [hmo] at h
    have hf := mo_fb hmo
    have hml := mo_len hmo
    have hI := tx52 (s := s) (kd := kd) (t := t) (row := row)
    cases hkd : inB kd 1 4 with
    | false =>
      rw [apN_1 (o := ⟨kd, t, row⟩) (fun q => bft hkd q.2)]
      simp only [hkd, Bool.false_eq_true, if_false] at hI
      repeat' ((conv => whnf); (first | (apply cx26; refine kl (hM) ?_) | (apply cx51; refine kl ((t_spec_l22CopyL (m := m))) ?_) | (apply cx52; refine kl (hI) ?_) | refine And.intro ⟨rfl, (by simp), by decide, csM_shal⟩ ?_ | refine k0 ?_ | refine jA fun _ => ?_ | refine jB fun _ => ?_ | refine kC (fun _ => ?_) fun _ => ?_ | (apply cx51; refine kl tx51 ?_) | (apply cx26; refine kl tx26 ?_) | (apply cx52; refine kl tx52 ?_) | (apply cx54; refine kl tx54 ?_) | (apply cx53; refine kl tx53 ?_) | (apply cx55; refine kl tx55 ?_) | (apply cx56; refine kl tx56 ?_) | (apply cx57; refine kl tx57 ?_) | refine jst ?_ | exact ⟨rfl, rfl⟩ | exact jV | fail))
    | true =>
      simp only [hkd, if_true] at hI
      by_cases ht : inB t 0 ((s.length : Int) - 1) = true
      · have hb := inB_iff.1 ht
        obtain ⟨k, rfl⟩ : ∃ k : Nat, t = k := ⟨t.toNat, by omega⟩
        have h2 : k < s.length := by omega
        have h3 : k < m.length := by omega
        have hd := q2 k h2
        have hcd := cd_fb hf h2
        have hrw := mo_rw hmo h2 h3
        have hpl := ppN_len (d := s[k])
        have hmk := z2 k h3
        obtain ⟨z3, z4⟩ := z2 k h3
        rw [ofN_y h2] at hI
        by_cases c1 : ofT s[k] k ⟨kd, k, row⟩ = 0
        · rw [c1] at hI
          have hK := tx54 (s := s) (kd := kd) (k := k) (row := row)
          obtain ⟨key, hkey⟩ : ∃ key, kyD s[k] ⟨kd, k, row⟩ = key := ⟨_, rfl⟩
          have hkl : key.length ≤ 2000000 := by
            by_cases h4 : kd = 4
            · rw [← hkey, kyD_4 (o := ⟨kd, k, row⟩) h4]; exact hrl
            · rw [← hkey, kyD_n (o := ⟨kd, k, row⟩) h4, pkR_len]; omega
          rw [hkey] at hK
          have hA := tx53 (d := s[k]) (rows := m[k]) (key := key)
          obtain ⟨a, ha⟩ : ∃ a, atN (ppN s[k]) m[k] key = a := ⟨_, rfl⟩
          rw [ha] at hA
          have hkc : ∀ b, T 55 [.val true [i6 kd, i6 k, slE false row], aB b] [vI (thN ⟨kd, k, row⟩ b)] [none, none] := fun b => tx55 (t := k) (row := row)
          have hT : T 56 [.val true (dfC false s[k]), aE m[k], aE row] [vB (tkN s[k] m[k] row)] [none, none, none] := tx56 hcd
          by_cases hn : 0 ≤ a
          · skip
            have his := isN_y (d := s[k]) (rows := m[k]) (o := ⟨kd, k, row⟩) (by rw [hkey]; exact ha) hn
            have hC := hkc true
            by_cases c2 : thN ⟨kd, k, row⟩ true = 0
            · rw [c2] at hC
              have c3 : thN ⟨kd, k, row⟩ (isN s[k] m[k] ⟨kd, k, row⟩) = 0 := by rw [his]; exact c2
              by_cases h4 : kd = 4
              · subst h4
                have hky : row = key := by rw [← hkey, kyD_4 rfl]
                subst hky
                have hac : acT s[k] k m[k] ⟨4, k, row⟩ = 0 := acT_0 c1 c3 (.inl rfl)
                obtain ⟨j, hj⟩ : ∃ j : Nat, a = j := ⟨a.toNat, by omega⟩
                subst hj
                obtain ⟨hj2, _⟩ := atN_mem ha
                have hnr := nrN_4 (d := s[k]) (rows := m[k]) (o := ⟨4, k, row⟩) rfl ha
                have hjt : (m[k].take j).length = j := by rw [List.length_take]; omega
                have hjd : (m[k].drop (j + 1)).length = m[k].length - (j + 1) := List.length_drop
                rw [apN_y ⟨hmo, hkd⟩ h2 h3 hac, hnr]
                repeat' ((conv => whnf); (first | (apply cx26; refine kl (hM) ?_) | (apply cx51; refine kl ((t_spec_l22CopyL (m := m))) ?_) | (apply cx52; refine kl (hI) ?_) | (apply cx54; refine kl (hK) ?_) | (apply cx53; refine kl (hA) ?_) | (apply cx55; refine kl (hC) ?_) | refine And.intro ⟨by omega, by omega⟩ (Exists.intro _ (And.intro (rdI (i := k) (by omega) (by omega)) ?_)) | refine Exists.intro _ (Exists.intro _ (Exists.intro _ (And.intro rfl (And.intro bndN (And.intro (sl_to (by omega)) ?_))))) | refine Exists.intro _ (Exists.intro _ (Exists.intro _ (And.intro bndN (And.intro rfl (And.intro (sl_from (by omega)) ?_))))) | refine Exists.intro ((j + 1 : Nat) : Int) (And.intro ((i64_in _ (by omega)).trans (by omega)) ?_) | refine Exists.intro _ (Exists.intro (cs false (m[k].take j)) (And.intro rfl (And.intro ⟨Nat.le_refl _, bgb (by omega), bg (by omega)⟩ (Exists.intro _ (And.intro ape (Exists.intro _ (And.intro (Nat.zero_add _) ?_))))))) | refine jap (N := cs false (m[k].drop (j + 1))) (apE (o := false) (xs := m[k].take j) (ys := m[k].drop (j + 1)) ?_) | refine bstep (w_out 6 (csM (m.take k)) (csM (m.drop (k + 1))) rfl (csM_split h3) rfl) ?_ | refine bstep (w_inF false 6 8 (csM (m.take k)) m[k] (csM (m.drop (k + 1))) m[k].length 1 rfl) ?_ | refine ko (mixL (csMA_len h3)) ?_ | refine ko (mixP (csMA_len h3)) ?_ | refine bstep (w_inM 6 410 (csM (m.take k)) (m[k].take j ++ m[k].drop (j + 1)) (csM (m.drop (k + 1))) (m[k].take j ++ m[k].drop (j + 1)).length (cs1 := csM (m.set k (m[k].take j ++ m[k].drop (j + 1)))) (csM_set h3)) ?_ | refine And.intro ⟨rfl, (by simp), by decide, csM_shal⟩ ?_ | refine k0 ?_ | refine jA fun _ => ?_ | refine jB fun _ => ?_ | refine kC (fun _ => ?_) fun _ => ?_ | (apply cx51; refine kl tx51 ?_) | (apply cx26; refine kl tx26 ?_) | (apply cx52; refine kl tx52 ?_) | (apply cx54; refine kl tx54 ?_) | (apply cx53; refine kl tx53 ?_) | (apply cx55; refine kl tx55 ?_) | (apply cx56; refine kl tx56 ?_) | (apply cx57; refine kl tx57 ?_) | refine jst ?_ | exact ⟨rfl, rfl⟩ | exact jV | fail))
                exact ⟨congrArg (fun c => [(true, [c]), vI 0]) slM_set, rfl⟩
              · cases htk : tkN s[k] m[k] row
                · rw [htk] at hT
                  have hac : acT s[k] k m[k] ⟨kd, k, row⟩ = 0 := acT_0 c1 c3 (.inr htk)
                  have hnr := nrN_n (d := s[k]) (rows := m[k]) (o := ⟨kd, k, row⟩) h4
                  rw [apN_y ⟨hmo, hkd⟩ h2 h3 hac, hnr]
                  repeat' ((conv => whnf); (first | (apply cx26; refine kl (hM) ?_) | (apply cx51; refine kl ((t_spec_l22CopyL (m := m))) ?_) | (apply cx52; refine kl (hI) ?_) | (apply cx54; refine kl (hK) ?_) | (apply cx53; refine kl (hA) ?_) | (apply cx55; refine kl (hC) ?_) | refine And.intro ⟨by omega, by omega⟩ (Exists.intro _ (And.intro (rdI (i := k) (by omega) (by omega)) ?_)) | (apply cx56; refine kl (hT) ?_) | (apply cx57; refine kl ((t_spec_l22SetL (d := s[k]) (rows := m[k]) (row := row))) ?_) | refine ko (ptM1 h3) ?_ | refine bstep (w_inM 6 137 (csM (m.take k)) (seS (ppN s[k]) m[k] row) (csM (m.drop (k + 1))) (seS (ppN s[k]) m[k] row).length (cs1 := csM (m.set k (seS (ppN s[k]) m[k] row))) (csM_set h3)) ?_ | refine And.intro ⟨rfl, (by simp), by decide, csM_shal⟩ ?_ | refine k0 ?_ | refine jA fun _ => ?_ | refine jB fun _ => ?_ | refine kC (fun _ => ?_) fun _ => ?_ | (apply cx51; refine kl tx51 ?_) | (apply cx26; refine kl tx26 ?_) | (apply cx52; refine kl tx52 ?_) | (apply cx54; refine kl tx54 ?_) | (apply cx53; refine kl tx53 ?_) | (apply cx55; refine kl tx55 ?_) | (apply cx56; refine kl tx56 ?_) | (apply cx57; refine kl tx57 ?_) | refine jst ?_ | exact ⟨rfl, rfl⟩ | exact jV | fail))
                  exact ⟨congrArg (fun c => [(true, [c]), vI 0]) slM_set, rfl⟩
                · rw [htk] at hT
                  have h5 := acT_5 (o := ⟨kd, k, row⟩) c1 c3 h4 htk
                  rw [apN_e ⟨hmo, hkd⟩ h2 h3 (by rw [h5]; decide), h5]
                  repeat' ((conv => whnf); (first | (apply cx26; refine kl (hM) ?_) | (apply cx51; refine kl ((t_spec_l22CopyL (m := m))) ?_) | (apply cx52; refine kl (hI) ?_) | (apply cx54; refine kl (hK) ?_) | (apply cx53; refine kl (hA) ?_) | (apply cx55; refine kl (hC) ?_) | refine And.intro ⟨by omega, by omega⟩ (Exists.intro _ (And.intro (rdI (i := k) (by omega) (by omega)) ?_)) | (apply cx56; refine kl (hT) ?_) | refine And.intro ⟨rfl, (by simp), by decide, csM_shal⟩ ?_ | refine k0 ?_ | refine jA fun _ => ?_ | refine jB fun _ => ?_ | refine kC (fun _ => ?_) fun _ => ?_ | (apply cx51; refine kl tx51 ?_) | (apply cx26; refine kl tx26 ?_) | (apply cx52; refine kl tx52 ?_) | (apply cx54; refine kl tx54 ?_) | (apply cx53; refine kl tx53 ?_) | (apply cx55; refine kl tx55 ?_) | (apply cx56; refine kl tx56 ?_) | (apply cx57; refine kl tx57 ?_) | refine jst ?_ | exact ⟨rfl, rfl⟩ | exact jV | fail))
            · rw [apN_e ⟨hmo, hkd⟩ h2 h3 (by rw [acT_t c1 (by rw [his]; exact c2), his]; exact c2), acT_t c1 (by rw [his]; exact c2), his]
              generalize thN ⟨kd, k, row⟩ true = c at *
              repeat' ((conv => whnf); (first | (apply cx26; refine kl (hM) ?_) | (apply cx51; refine kl ((t_spec_l22CopyL (m := m))) ?_) | (apply cx52; refine kl (hI) ?_) | (apply cx54; refine kl (hK) ?_) | (apply cx53; refine kl (hA) ?_) | (apply cx55; refine kl (hC) ?_) | refine And.intro ⟨by omega, by omega⟩ (Exists.intro _ (And.intro (rdI (i := k) (by omega) (by omega)) ?_)) | refine And.intro ⟨rfl, (by simp), by decide, csM_shal⟩ ?_ | refine k0 ?_ | refine jA fun _ => ?_ | refine jB fun _ => ?_ | refine kC (fun _ => ?_) fun _ => ?_ | (apply cx51; refine kl tx51 ?_) | (apply cx26; refine kl tx26 ?_) | (apply cx52; refine kl tx52 ?_) | (apply cx54; refine kl tx54 ?_) | (apply cx53; refine kl tx53 ?_) | (apply cx55; refine kl tx55 ?_) | (apply cx56; refine kl tx56 ?_) | (apply cx57; refine kl tx57 ?_) | refine jst ?_ | exact ⟨rfl, rfl⟩ | exact jV | fail))
          · skip
            have his := isN_n (d := s[k]) (rows := m[k]) (o := ⟨kd, k, row⟩) (by rw [hkey]; exact ha) hn
            have hC := hkc false
            by_cases c2 : thN ⟨kd, k, row⟩ false = 0
            · rw [c2] at hC
              have c3 : thN ⟨kd, k, row⟩ (isN s[k] m[k] ⟨kd, k, row⟩) = 0 := by rw [his]; exact c2
              by_cases h4 : kd = 4
              · subst h4; rw [th_4] at c2; exact absurd c2 (by decide)
              · cases htk : tkN s[k] m[k] row
                · rw [htk] at hT
                  have hac : acT s[k] k m[k] ⟨kd, k, row⟩ = 0 := acT_0 c1 c3 (.inr htk)
                  have hnr := nrN_n (d := s[k]) (rows := m[k]) (o := ⟨kd, k, row⟩) h4
                  rw [apN_y ⟨hmo, hkd⟩ h2 h3 hac, hnr]
                  repeat' ((conv => whnf); (first | (apply cx26; refine kl (hM) ?_) | (apply cx51; refine kl ((t_spec_l22CopyL (m := m))) ?_) | (apply cx52; refine kl (hI) ?_) | (apply cx54; refine kl (hK) ?_) | (apply cx53; refine kl (hA) ?_) | (apply cx55; refine kl (hC) ?_) | refine And.intro ⟨by omega, by omega⟩ (Exists.intro _ (And.intro (rdI (i := k) (by omega) (by omega)) ?_)) | (apply cx56; refine kl (hT) ?_) | (apply cx57; refine kl ((t_spec_l22SetL (d := s[k]) (rows := m[k]) (row := row))) ?_) | refine ko (ptM1 h3) ?_ | refine bstep (w_inM 6 137 (csM (m.take k)) (seS (ppN s[k]) m[k] row) (csM (m.drop (k + 1))) (seS (ppN s[k]) m[k] row).length (cs1 := csM (m.set k (seS (ppN s[k]) m[k] row))) (csM_set h3)) ?_ | refine And.intro ⟨rfl, (by simp), by decide, csM_shal⟩ ?_ | refine k0 ?_ | refine jA fun _ => ?_ | refine jB fun _ => ?_ | refine kC (fun _ => ?_) fun _ => ?_ | (apply cx51; refine kl tx51 ?_) | (apply cx26; refine kl tx26 ?_) | (apply cx52; refine kl tx52 ?_) | (apply cx54; refine kl tx54 ?_) | (apply cx53; refine kl tx53 ?_) | (apply cx55; refine kl tx55 ?_) | (apply cx56; refine kl tx56 ?_) | (apply cx57; refine kl tx57 ?_) | refine jst ?_ | exact ⟨rfl, rfl⟩ | exact jV | fail))
                  exact ⟨congrArg (fun c => [(true, [c]), vI 0]) slM_set, rfl⟩
                · rw [htk] at hT
                  have h5 := acT_5 (o := ⟨kd, k, row⟩) c1 c3 h4 htk
                  rw [apN_e ⟨hmo, hkd⟩ h2 h3 (by rw [h5]; decide), h5]
                  repeat' ((conv => whnf); (first | (apply cx26; refine kl (hM) ?_) | (apply cx51; refine kl ((t_spec_l22CopyL (m := m))) ?_) | (apply cx52; refine kl (hI) ?_) | (apply cx54; refine kl (hK) ?_) | (apply cx53; refine kl (hA) ?_) | (apply cx55; refine kl (hC) ?_) | refine And.intro ⟨by omega, by omega⟩ (Exists.intro _ (And.intro (rdI (i := k) (by omega) (by omega)) ?_)) | (apply cx56; refine kl (hT) ?_) | refine And.intro ⟨rfl, (by simp), by decide, csM_shal⟩ ?_ | refine k0 ?_ | refine jA fun _ => ?_ | refine jB fun _ => ?_ | refine kC (fun _ => ?_) fun _ => ?_ | (apply cx51; refine kl tx51 ?_) | (apply cx26; refine kl tx26 ?_) | (apply cx52; refine kl tx52 ?_) | (apply cx54; refine kl tx54 ?_) | (apply cx53; refine kl tx53 ?_) | (apply cx55; refine kl tx55 ?_) | (apply cx56; refine kl tx56 ?_) | (apply cx57; refine kl tx57 ?_) | refine jst ?_ | exact ⟨rfl, rfl⟩ | exact jV | fail))
            · rw [apN_e ⟨hmo, hkd⟩ h2 h3 (by rw [acT_t c1 (by rw [his]; exact c2), his]; exact c2), acT_t c1 (by rw [his]; exact c2), his]
              generalize thN ⟨kd, k, row⟩ false = c at *
              repeat' ((conv => whnf); (first | (apply cx26; refine kl (hM) ?_) | (apply cx51; refine kl ((t_spec_l22CopyL (m := m))) ?_) | (apply cx52; refine kl (hI) ?_) | (apply cx54; refine kl (hK) ?_) | (apply cx53; refine kl (hA) ?_) | (apply cx55; refine kl (hC) ?_) | refine And.intro ⟨by omega, by omega⟩ (Exists.intro _ (And.intro (rdI (i := k) (by omega) (by omega)) ?_)) | refine And.intro ⟨rfl, (by simp), by decide, csM_shal⟩ ?_ | refine k0 ?_ | refine jA fun _ => ?_ | refine jB fun _ => ?_ | refine kC (fun _ => ?_) fun _ => ?_ | (apply cx51; refine kl tx51 ?_) | (apply cx26; refine kl tx26 ?_) | (apply cx52; refine kl tx52 ?_) | (apply cx54; refine kl tx54 ?_) | (apply cx53; refine kl tx53 ?_) | (apply cx55; refine kl tx55 ?_) | (apply cx56; refine kl tx56 ?_) | (apply cx57; refine kl tx57 ?_) | refine jst ?_ | exact ⟨rfl, rfl⟩ | exact jV | fail))
        · rw [apN_e ⟨hmo, hkd⟩ h2 h3 (by rw [acT_f c1]; exact c1), acT_f c1]
          generalize ofT s[k] k ⟨kd, k, row⟩ = c at *
          repeat' ((conv => whnf); (first | (apply cx26; refine kl (hM) ?_) | (apply cx51; refine kl ((t_spec_l22CopyL (m := m))) ?_) | (apply cx52; refine kl (hI) ?_) | refine And.intro ⟨rfl, (by simp), by decide, csM_shal⟩ ?_ | refine k0 ?_ | refine jA fun _ => ?_ | refine jB fun _ => ?_ | refine kC (fun _ => ?_) fun _ => ?_ | (apply cx51; refine kl tx51 ?_) | (apply cx26; refine kl tx26 ?_) | (apply cx52; refine kl tx52 ?_) | (apply cx54; refine kl tx54 ?_) | (apply cx53; refine kl tx53 ?_) | (apply cx55; refine kl tx55 ?_) | (apply cx56; refine kl tx56 ?_) | (apply cx57; refine kl tx57 ?_) | refine jst ?_ | exact ⟨rfl, rfl⟩ | exact jV | fail))
      · have hnn : ¬ (0 ≤ t ∧ t.toNat < s.length) := fun q => ht (inB_iff.2 (by omega))
        rw [ofN_n (o := ⟨kd, t, row⟩) hnn] at hI
        rw [apN_2 (o := ⟨kd, t, row⟩) ⟨hmo, hkd⟩ (fun q => hnn ⟨q.1, q.2.1⟩)]
        repeat' ((conv => whnf); (first | (apply cx26; refine kl (hM) ?_) | (apply cx51; refine kl ((t_spec_l22CopyL (m := m))) ?_) | (apply cx52; refine kl (hI) ?_) | refine And.intro ⟨rfl, (by simp), by decide, csM_shal⟩ ?_ | refine k0 ?_ | refine jA fun _ => ?_ | refine jB fun _ => ?_ | refine kC (fun _ => ?_) fun _ => ?_ | (apply cx51; refine kl tx51 ?_) | (apply cx26; refine kl tx26 ?_) | (apply cx52; refine kl tx52 ?_) | (apply cx54; refine kl tx54 ?_) | (apply cx53; refine kl tx53 ?_) | (apply cx55; refine kl tx55 ?_) | (apply cx56; refine kl tx56 ?_) | (apply cx57; refine kl tx57 ?_) | refine jst ?_ | exact ⟨rfl, rfl⟩ | exact jV | fail))
end

end Go.Proofs.YtddikflnjloagaaGreatDoor
