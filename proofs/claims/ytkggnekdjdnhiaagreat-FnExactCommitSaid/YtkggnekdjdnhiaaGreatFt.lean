/- Functions of the program, each with what it gives back. -/
import Derived.Test.YtkggnekdjdnhiaaGreatKe
import Derived.Test.YtkggnekdjdnhiaaGreatChecked
import Derived.IntWalk
import Derived.Test.YtkggnekdjdnhiaaGreatFs
namespace Go.Proofs.YtkggnekdjdnhiaaGreat
open Go Go.RowKit Go.IntWalk
open Enc (sz cs)
attribute [local irreducible] IntKind.wrap

attribute [local irreducible] gU gT gS gP gM ptP ptM ptS crcN rdS bdN gN pgA ndA
/-! ### What a root leads to -/
/-- Led to from `r` (`z`: a kid 0 counts). -/
inductive Rch (t : Txn) (z : Bool) (r : Int) : Int → Prop
  | root : r ≠ 0 → (ndA t r).2 = true → Rch t z r r
  | kid {n k : Int} : Rch t z r n → k ∈ (ndA t n).1.kids → (ndA t k).2 = true → (z = true ∨ k ≠ 0) → Rch t z r k
theorem Rch.ok {t : Txn} {z : Bool} {r n : Int} (h : Rch t z r n) : (ndA t n).2 = true := by cases h <;> assumption
theorem Rch.up {t : Txn} {z : Bool} {r n : Int} (h : Rch t z r n) : Rch t true r n := by
  induction h with
  | root a b => exact .root a b
  | kid _ a b _ ih => exact .kid ih a b (.inl rfl)
theorem Rch.down {t : Txn} {z : Bool} {r n : Int} (h0 : ∀ n, (ndA t n).2 = true → (0 : Int) ∉ (ndA t n).1.kids) (h : Rch t z r n) : Rch t false r n := by
  induction h with
  | root a b => exact .root a b
  | kid a b c _ ih => exact .kid ih b c (.inr fun e => h0 _ a.ok (e ▸ b))
theorem Rch.no0 {t : Txn} {r n : Int} (h : Rch t false r n) : n ≠ 0 := by
  cases h with
  | root a _ => exact a
  | kid _ _ _ a => rcases a with a | a; cases a; exact a
theorem Rch.top {t : Txn} {z : Bool} {r n : Int} (h : Rch t z r n) : (ndA t r).2 = true ∧ r ≠ 0 := by
  induction h with
  | root a b => exact ⟨b, a⟩
  | kid _ _ _ _ ih => exact ih
theorem Rch.trans {t : Txn} {z : Bool} {r k n : Int} (hr : Rch t z r k) (h : Rch t z k n) : Rch t z r n := by
  induction h with
  | root => exact hr
  | kid _ b c d ih => exact .kid ih b c d

/-! ### Lists in order -/
abbrev SL (l : List Int) : Prop := l.Pairwise (· < ·)
theorem SL.ext : ∀ {a b : List Int}, SL a → SL b → (∀ x, x ∈ a ↔ x ∈ b) → a = b
  | [], [], _, _, _ => rfl
  | [], y :: b, _, _, h => absurd ((h y).2 List.mem_cons_self) (by simp)
  | x :: a, [], _, _, h => absurd ((h x).1 List.mem_cons_self) (by simp)
  | x :: a, y :: b, ha, hb, h => by
    obtain ⟨a1, a2⟩ := List.pairwise_cons.1 ha
    obtain ⟨b1, b2⟩ := List.pairwise_cons.1 hb
    have e : x = y := by
      rcases List.mem_cons.1 ((h x).1 List.mem_cons_self) with e | e
      · exact e
      · rcases List.mem_cons.1 ((h y).2 List.mem_cons_self) with f | f
        · exact f.symm
        · have := a1 _ f; have := b1 _ e; omega
    subst e
    rw [SL.ext a2 b2 fun z => ⟨fun hz => ?_, fun hz => ?_⟩]
    · rcases List.mem_cons.1 ((h z).1 (List.mem_cons_of_mem _ hz)) with e | e
      · have := a1 _ hz; omega
      · exact e
    · rcases List.mem_cons.1 ((h z).2 (List.mem_cons_of_mem _ hz)) with e | e
      · have := b1 _ hz; omega
      · exact e
/-- A number put in order. -/
def insS (l : List Int) (n : Int) : List Int := if hasI l n = true then l else l.filter (· < n) ++ [n] ++ l.filter (n < ·)
theorem hasI_iff {l : List Int} {n : Int} : hasI l n = true ↔ n ∈ l := by simp [hasI]
theorem insS_mem {l : List Int} {n x : Int} : x ∈ insS l n ↔ x ∈ l ∨ x = n := by
  unfold insS
  split
  · rename_i h
    have := hasI_iff.1 h
    exact ⟨.inl, fun q => q.elim id fun e => e ▸ this⟩
  · rename_i h
    simp only [List.mem_append, List.mem_filter, List.mem_singleton, decide_eq_true_eq]
    constructor
    · rintro ((⟨a, _⟩ | a) | ⟨a, _⟩)
      · exact .inl a
      · exact .inr a
      · exact .inl a
    · rintro (a | a)
      · by_cases e : x = n
        · exact .inl (.inr e)
        · by_cases q : x < n
          · exact .inl (.inl ⟨a, q⟩)
          · exact .inr ⟨a, by omega⟩
      · exact .inl (.inr a)
theorem insS_sl {l : List Int} {n : Int} (h : SL l) : SL (insS l n) := by
  unfold insS
  split
  · exact h
  · refine List.pairwise_append.2 ⟨List.pairwise_append.2 ⟨h.filter _, by simp, ?_⟩, h.filter _, ?_⟩
    · intro a ha b hb
      simp at ha hb; omega
    · intro a ha b hb
      simp at ha hb; omega
theorem insS_len {l : List Int} {n : Int} : (insS l n).length ≤ l.length + 1 := by
  have key : ∀ l : List Int, (l.filter (· < n)).length + (l.filter (n < ·)).length ≤ l.length := by
    intro l
    induction l with
    | nil => simp
    | cons x l ih =>
      rw [List.filter_cons, List.filter_cons]
      by_cases a : x < n
      · have b : ¬ n < x := by omega
        simp only [a, b, decide_true, decide_false, if_true, Bool.false_eq_true, if_false, List.length_cons]; omega
      · by_cases b : n < x
        · simp only [a, b, decide_true, decide_false, if_true, Bool.false_eq_true, if_false, List.length_cons]; omega
        · simp only [a, b, decide_false, Bool.false_eq_true, if_false, List.length_cons]; omega
  unfold insS
  split
  · omega
  · have := key l
    simp only [List.length_append, List.length_singleton]; omega

open Classical in
/-- The sectors that a root leads to, in order. -/
noncomputable def pg0 (t : Txn) (z : Bool) (r : Int) : List Int := ((univ t).filter (fun n => decide (Rch t z r n))).foldl insS []
theorem insF_mem {x : Int} : ∀ {l a : List Int}, x ∈ l.foldl insS a ↔ x ∈ a ∨ x ∈ l
  | [], a => by simp
  | y :: l, a => by rw [List.foldl_cons, insF_mem, insS_mem, List.mem_cons, or_assoc]
theorem insF_sl : ∀ {l a : List Int}, SL a → SL (l.foldl insS a)
  | [], _, h => h
  | y :: l, a, h => insF_sl (l := l) (a := insS a y) (insS_sl h)
open Classical in
theorem pg0_mem {t : Txn} {z : Bool} {r n : Int} : n ∈ pg0 t z r ↔ Rch t z r n := by
  unfold pg0
  rw [insF_mem, List.mem_filter]
  simp only [decide_eq_true_eq]
  exact ⟨fun h => h.elim (fun q => by cases q) (·.2), fun h => .inr ⟨ndA_univ h.ok, h⟩⟩
theorem pg0_sl {t : Txn} {z : Bool} {r : Int} : SL (pg0 t z r) := insF_sl .nil
theorem pg0_eq {t : Txn} {z : Bool} {r : Int} {l : List Int} (h : SL l) (hm : ∀ x, x ∈ l ↔ Rch t z r x) : l = pg0 t z r := h.ext pg0_sl fun x => (hm x).trans pg0_mem.symm
theorem pg0_up {t : Txn} {r : Int} (h0 : ∀ n, (ndA t n).2 = true → (0 : Int) ∉ (ndA t n).1.kids) : pg0 t true r = pg0 t false r := pg0_eq pg0_sl fun x => pg0_mem.trans ⟨.down h0, .up⟩
/-- What the sectors have, alone. -/
abbrev bare (t : Txn) : Txn := ⟨t.d, ⟨0, 0⟩, 0, t.new⟩
noncomputable def pgS (t : Txn) (z : Bool) (r : Int) : List Int := pg0 (bare t) z r

/-! ### Going down -/
noncomputable def wlk (t : Txn) : Nat → Int → List Int → List Int
  | 0, _, l => l
  | f + 1, n, l => if n = 0 ∨ hasI l n = true ∨ (ndA t n).2 = false then l else (ndA t n).1.kids.foldl (fun l k => wlk t f k l) (insS l n)
theorem wlk_no {t : Txn} {f : Nat} {n : Int} {l : List Int} (h : n = 0 ∨ hasI l n = true ∨ (ndA t n).2 = false) : wlk t f n l = l := by
  cases f with
  | zero => rfl
  | succ f => rw [wlk, if_pos h]
theorem wlk_go {t : Txn} {f : Nat} {n : Int} {l : List Int} (h : n ≠ 0) (h1 : hasI l n = false) (h2 : (ndA t n).2 = true) : wlk t (f + 1) n l = (ndA t n).1.kids.foldl (fun l k => wlk t f k l) (insS l n) := by
  rw [wlk, if_neg (by rw [h1, h2]; simp [h])]
theorem lft_sub {t : Txn} {a b : List Int} (h : ∀ x ∈ a, x ∈ b) : lft t b ≤ lft t a := by
  refine List.countP_mono_left fun n _ hn => ?_
  cases e : hasI a n with
  | false => rfl
  | true => rw [hasI_iff.2 (h _ (hasI_iff.1 e))] at hn; cases hn
theorem lft_ins {t : Txn} {n : Int} {l : List Int} (h : (ndA t n).2 = true) (h1 : hasI l n = false) : lft t (insS l n) + 1 ≤ lft t l :=
  Nat.le_trans (Nat.succ_le_succ (lft_sub (a := l ++ [n]) fun x hx => insS_mem.2 (by simpa using hx))) (lft_lt h h1)
/-- What is true of what was gone to, from `l` on, by `Q`. -/
structure Wk (t : Txn) (Q : Int → Prop) (l l' : List Int) : Prop where
  sub : ∀ x ∈ l, x ∈ l'
  sl : SL l → SL l'
  len : l'.length + lft t l' ≤ l.length + lft t l
  from' : ∀ x ∈ l', x ∈ l ∨ ∃ n, Q n ∧ Rch t false n x
  clo : ∀ x ∈ l', x ∉ l → ∀ k ∈ (ndA t x).1.kids, (ndA t k).2 = true → k ≠ 0 → k ∈ l'
theorem Wk.refl {t : Txn} {Q : Int → Prop} {l : List Int} : Wk t Q l l := ⟨fun _ h => h, id, Nat.le_refl _, fun _ h => .inl h, fun _ h k => absurd h k⟩
theorem Wk.trans {t : Txn} {Q : Int → Prop} {a b c : List Int} (h : Wk t Q a b) (k : Wk t Q b c) : Wk t Q a c :=
  ⟨fun x hx => k.sub x (h.sub x hx), fun s => k.sl (h.sl s), Nat.le_trans k.len h.len,
   fun x hx => (k.from' x hx).elim (h.from' x) .inr,
   fun x hx hn m hm h1 h2 => by
     by_cases e : x ∈ b
     · exact k.sub m (h.clo x e hn m hm h1 h2)
     · exact k.clo x hx e m hm h1 h2⟩
theorem Wk.mono {t : Txn} {Q Q' : Int → Prop} {a b : List Int} (hq : ∀ n, Q n → Q' n) (h : Wk t Q a b) : Wk t Q' a b :=
  ⟨h.sub, h.sl, h.len, fun x hx => (h.from' x hx).imp id fun ⟨n, q, r⟩ => ⟨n, hq n q, r⟩, h.clo⟩
theorem wlk_wk (t : Txn) : ∀ (f : Nat) (n : Int) (l : List Int), lft t l ≤ f → Wk t (· = n) l (wlk t f n l) ∧ (n ≠ 0 → (ndA t n).2 = true → n ∈ wlk t f n l)
  | f, n, l, hf => by
    by_cases h : n = 0 ∨ hasI l n = true ∨ (ndA t n).2 = false
    · rw [wlk_no h]
      refine ⟨.refl, fun h1 h2 => ?_⟩
      rcases h with h | h | h
      · exact absurd h h1
      · exact hasI_iff.1 h
      · rw [h] at h2; cases h2
    · have h1 : n ≠ 0 := fun e => h (.inl e)
      have h2 : hasI l n = false := by cases e : hasI l n with | false => rfl | true => exact absurd (.inr (.inl e)) h
      have h3 : (ndA t n).2 = true := by cases e : (ndA t n).2 with | true => rfl | false => exact absurd (.inr (.inr e)) h
      have h4 := lft_ins h3 h2
      match f, hf with
      | 0, hf => omega
      | f + 1, hf =>
        rw [wlk_go h1 h2 h3]
        have key : ∀ (ks : List Int) (a : List Int), lft t a ≤ f → Wk t (· ∈ ks) a (ks.foldl (fun l k => wlk t f k l) a) ∧ ∀ k ∈ ks, k ≠ 0 → (ndA t k).2 = true → k ∈ ks.foldl (fun l k => wlk t f k l) a := by
          intro ks
          induction ks with
          | nil => intro a _; exact ⟨.refl, fun k hk => by cases hk⟩
          | cons k ks ih =>
            intro a ha
            obtain ⟨w1, w2⟩ := wlk_wk t f k a ha
            obtain ⟨v1, v2⟩ := ih (wlk t f k a) (Nat.le_trans (lft_sub w1.sub) ha)
            refine ⟨(w1.mono fun x e => by rw [e]; exact List.mem_cons_self).trans (v1.mono fun x e => List.mem_cons_of_mem _ e), fun m hm g1 g2 => ?_⟩
            rcases List.mem_cons.1 hm with rfl | hm
            · exact v1.sub _ (w2 g1 g2)
            · exact v2 m hm g1 g2
        obtain ⟨v1, v2⟩ := key (ndA t n).1.kids (insS l n) (by omega)
        have hn : n ∈ insS l n := insS_mem.2 (.inr rfl)
        refine ⟨⟨fun x hx => v1.sub x (insS_mem.2 (.inl hx)), fun s => v1.sl (insS_sl s), ?_, fun x hx => ?_, fun x hx hl k hk g1 g2 => ?_⟩, fun _ _ => v1.sub n hn⟩
        · have := v1.len; have := insS_len (l := l) (n := n); omega
        · rcases v1.from' x hx with g | ⟨k, g1, g2⟩
          · rcases insS_mem.1 g with g | g
            · exact .inl g
            · subst g; exact .inr ⟨x, rfl, .root h1 h3⟩
          · have g3 := g2.top
            exact .inr ⟨n, rfl, (Rch.kid (.root h1 h3) g1 g3.1 (.inr g3.2)).trans g2⟩
        · by_cases e : x ∈ insS l n
          · rcases insS_mem.1 e with e | e
            · exact absurd e hl
            · subst e; exact v2 k hk g2 g1
          · exact v1.clo x hx e k hk g1 g2
theorem wlk_all {t : Txn} {f : Nat} {r : Int} (hf : lft t [] ≤ f) : wlk t f r [] = pg0 t false r := by
  obtain ⟨w, hr⟩ := wlk_wk t f r [] hf
  refine pg0_eq (w.sl .nil) fun x => ⟨fun hx => ?_, fun hx => ?_⟩
  · rcases w.from' x hx with h | ⟨n, rfl, h⟩
    · cases h
    · exact h
  · induction hx with
    | root a b => exact hr a b
    | kid _ b c d ih => exact w.clo _ ih (by simp) _ b c (d.elim (fun q => by cases q) id)
/-! ### What is free; what is right -/
abbrev onD (t : Txn) : Txn := { t with new := [] }
noncomputable def frI (t : Txn) (n : Nat) : Bool := decide (2 ≤ n) && !hasI (pgS (onD t) false t.m.root) n && decide (nwI n t.new = -1)
/-- The free sectors, up to the `i`th. -/
noncomputable def frT (t : Txn) (i : Nat) : List Int := ((List.range i).filter (frI t)).map (fun (n : Nat) => (n : Int))
noncomputable def frL (t : Txn) : List Int := frT t t.d.secs.length
theorem frT_yes {t : Txn} {i : Nat} (h : 2 ≤ i) (h1 : hasI (pgS (onD t) false t.m.root) i = false) (h2 : nwI i t.new = -1) : frT t (i + 1) = frT t i ++ [(i : Int)] := by
  have e : frI t i = true := by unfold frI; rw [h1, h2]; simp [h]
  unfold frT
  rw [List.range_succ, List.filter_append]; simp [e]
theorem frT_no {t : Txn} {i : Nat} (h : i < 2 ∨ hasI (pgS (onD t) false t.m.root) i = true ∨ nwI i t.new ≠ -1) : frT t (i + 1) = frT t i := by
  have e : frI t i = false := by
    unfold frI
    rcases h with h | h | h
    · simp; omega
    · rw [h]; simp
    · simp [h]
  unfold frT
  rw [List.range_succ, List.filter_append]; simp [e]
theorem frT_len (t : Txn) (i : Nat) : (frT t i).length ≤ i := by
  unfold frT
  rw [List.length_map]
  exact Nat.le_trans (List.length_filter_le _ _) (by simp)
theorem frT_two {t : Txn} : frT t 2 = [] := by
  rw [frT_no (i := 1) (.inl (by omega)), frT_no (i := 0) (.inl (by omega))]; rfl
theorem frL_mem {t : Txn} {n : Int} : n ∈ frL t ↔ 2 ≤ n ∧ n < t.d.secs.length ∧ n ∉ pgS (onD t) false t.m.root ∧ nwI n t.new = -1 := by
  unfold frL frT
  rw [List.mem_map]
  constructor
  · rintro ⟨m, hm, rfl⟩
    rw [List.mem_filter, List.mem_range] at hm
    obtain ⟨h1, h2⟩ := hm
    unfold frI at h2
    simp only [Bool.and_eq_true, decide_eq_true_eq, Bool.not_eq_true'] at h2
    refine ⟨by omega, by omega, fun q => ?_, h2.2⟩
    rw [hasI_iff.2 q] at h2; simp at h2
  · rintro ⟨h1, h2, h3, h4⟩
    refine ⟨n.toNat, List.mem_filter.2 ⟨List.mem_range.2 (by omega), ?_⟩, by omega⟩
    unfold frI
    rw [show ((n.toNat : Nat) : Int) = n by omega, h4]
    have : hasI (pgS (onD t) false t.m.root) n = false := by
      cases e : hasI (pgS (onD t) false t.m.root) n with
      | false => rfl
      | true => exact absurd (hasI_iff.1 e) h3
    rw [this]; simp; omega
theorem NodOk.no0 {x : Nod} (h : NodOk x) : (0 : Int) ∉ x.kids := fun hm => by
  cases e : x.leaf with
  | true => rw [(h.leaf e).2.2] at hm; cases hm
  | false =>
    obtain ⟨i, hi, q⟩ := List.getElem_of_mem hm
    have := h.kid e i hi; omega
theorem kid0_d {d : Dsk} {n : Int} : (0 : Int) ∉ (ndD d n).1.kids := by
  cases h : (ndD d n).2 with
  | true => exact (ndD_ok h).no0
  | false =>
    unfold ndD at *
    split
    · rename_i h1
      rw [if_pos h1] at h
      rw [gN_bad h]; simp
    · simp
theorem kid0 {t : Txn} (h : ∀ f ∈ t.new, NodOk f.x) (n : Int) : (0 : Int) ∉ (ndA t n).1.kids := by
  rcases nwI_cases n t.new with ⟨h1, _⟩ | ⟨i, hi, h1, _⟩
  · rw [ndA_old h1]; exact kid0_d
  · rw [ndA_new hi h1]; exact (h _ (List.getElem_mem hi)).no0
theorem pgS_up {t : Txn} {r : Int} (h : ∀ f ∈ t.new, NodOk f.x) : pgS t true r = pgS t false r := pg0_up fun _ _ => kid0 (t := bare t) h _
theorem pgS_onD {t : Txn} {r : Int} : pgS (onD t) true r = pgS (onD t) false r := pgS_up (by simp)
/-- All that a root leads to is there (`z`: a kid 0 counts). -/
def Led (t : Txn) (z : Bool) (r : Int) : Prop := r = 0 ∨ ((ndA t r).2 = true ∧ ∀ n ∈ pgS t z r, ∀ k ∈ (ndA t n).1.kids, (ndA t k).2 = true ∧ (z = true ∨ k ≠ 0))
theorem Led.up {t : Txn} {r : Int} (h : ∀ f ∈ t.new, NodOk f.x) : Led t true r ↔ Led t false r := by
  unfold Led
  rw [pgS_up h]
  refine or_congr Iff.rfl (and_congr Iff.rfl ⟨fun q n hn k hk => ⟨(q n hn k hk).1, .inr fun e => kid0 h n (e ▸ hk)⟩, fun q n hn k hk => ⟨(q n hn k hk).1, .inl rfl⟩⟩)
open Classical in
noncomputable def led (t : Txn) (z : Bool) (r : Int) : Bool := decide (Led t z r)
theorem led_yes {t : Txn} {z : Bool} {r : Int} (h : Led t z r) : led t z r = true := by unfold led; simp [h]
theorem led_no {t : Txn} {z : Bool} {r : Int} (h : ¬ Led t z r) : led t z r = false := by unfold led; simp [h]
theorem led_iff {t : Txn} {z : Bool} {r : Int} : led t z r = true ↔ Led t z r := by unfold led; simp
theorem led_up {t : Txn} {r : Int} (h : ∀ f ∈ t.new, NodOk f.x) : led t true r = led t false r := by
  by_cases q : Led t true r
  · rw [led_yes q, led_yes ((Led.up h).1 q)]
  · rw [led_no q, led_no fun p => q ((Led.up h).2 p)]
theorem led_onD {t : Txn} {r : Int} : led (onD t) true r = led (onD t) false r := led_up (by simp)
/-- The `i`th new node is right. -/
structure NewOk (t : Txn) (z : Bool) (i : Nat) (h : i < t.new.length) : Prop where
  free : t.new[i].n ∈ frL (onD t)
  led : t.new[i].n ∈ pgS t z t.root
  ok : NodOk t.new[i].x
  ord : 0 < i → t.new[i - 1].n < t.new[i].n
def NewsOk (t : Txn) (z : Bool) : Prop := ∀ i (h : i < t.new.length), NewOk t z i h
theorem NewsOk.up {t : Txn} : NewsOk t true ↔ NewsOk t false := by
  constructor
  · intro h i hi
    have hn : ∀ f ∈ t.new, NodOk f.x := fun f hf => by
      obtain ⟨j, hj, rfl⟩ := List.getElem_of_mem hf
      exact (h j hj).ok
    obtain ⟨a, b, c, d⟩ := h i hi
    exact ⟨a, by rwa [pgS_up hn] at b, c, d⟩
  · intro h i hi
    have hn : ∀ f ∈ t.new, NodOk f.x := fun f hf => by
      obtain ⟨j, hj, rfl⟩ := List.getElem_of_mem hf
      exact (h j hj).ok
    obtain ⟨a, b, c, d⟩ := h i hi
    exact ⟨a, by rwa [pgS_up hn], c, d⟩
/-- What is under way is right. -/
structure TxOk (t : Txn) : Prop where
  d : DskOk t.d
  found : (bestM t.d).2 = true
  m : (bestM t.d).1 = t.m
  new : NewsOk t false
  led : Led t false t.root
  old : Led (onD t) false t.m.root
open Classical in
noncomputable def txOk (t : Txn) : Bool := decide (TxOk t)
theorem txOk_yes {t : Txn} (h : TxOk t) : txOk t = true := by unfold txOk; simp [h]
theorem txOk_no {t : Txn} (h : ¬ TxOk t) : txOk t = false := by unfold txOk; simp [h]
theorem txOk_iff {t : Txn} : txOk t = true ↔ TxOk t := by unfold txOk; simp
theorem TxOk.nod {t : Txn} (h : TxOk t) : ∀ f ∈ t.new, NodOk f.x := fun f hf => by
  obtain ⟨j, hj, rfl⟩ := List.getElem_of_mem hf
  exact (h.new j hj).ok
/-! ### Going on, node by node -/
structure Bf (t : Txn) (r : Int) (i : Nat) (l : List Int) : Prop where
  nd : l.Nodup
  root : r ∈ l
  from' : ∀ x ∈ l, Rch t true r x
  clo : ∀ j (h : j < l.length), j < i → ∀ k ∈ (ndA t l[j]).1.kids, (ndA t k).2 = true → k ∈ l
  len : l.length + lft t l ≤ zT t
theorem Bf.beg {t : Txn} {r : Int} (h : r ≠ 0) (h1 : (ndA t r).2 = true) : Bf t r 0 [r] := by
  refine ⟨by simp, by simp, fun x hx => ?_, fun j _ hj => absurd hj (by omega), ?_⟩
  · obtain rfl := List.mem_singleton.1 hx; exact .root h h1
  · have h2 := lft_lt (met := []) h1 rfl
    have h3 := lft_le t []
    simp only [List.nil_append, List.length_singleton] at *; omega
theorem Bf.add {t : Txn} {r k : Int} {i : Nat} {l : List Int} (h : Bf t r i l) (hi : i ≤ l.length) (h1 : (ndA t k).2 = true) (h2 : hasI l k = false) (h3 : Rch t true r k) : Bf t r i (l ++ [k]) := by
  have hk : k ∉ l := fun q => by rw [hasI_iff.2 q] at h2; cases h2
  refine ⟨List.nodup_append.2 ⟨h.nd, by simp, fun a ha b hb => ?_⟩, by simp [h.root], fun x hx => ?_, fun j hj hji m hm g => ?_, ?_⟩
  · obtain rfl := List.mem_singleton.1 hb; rintro rfl; exact hk ha
  · rcases List.mem_append.1 hx with hx | hx
    · exact h.from' x hx
    · obtain rfl := List.mem_singleton.1 hx; exact h3
  · rw [List.getElem_append_left (by omega)] at hm
    exact List.mem_append_left _ (h.clo j (by omega) hji m hm g)
  · have := lft_lt h1 h2
    have := h.len
    simp only [List.length_append, List.length_singleton]; omega
theorem Bf.step {t : Txn} {r : Int} {i : Nat} {l : List Int} (h : Bf t r i l) (hi : i < l.length) (hk : ∀ k ∈ (ndA t l[i]).1.kids, (ndA t k).2 = true → k ∈ l) : Bf t r (i + 1) l :=
  ⟨h.nd, h.root, h.from', fun j hj hji => by
    by_cases e : j = i
    · subst e; exact hk
    · exact h.clo j hj (by omega), h.len⟩
theorem Bf.fin {t : Txn} {r : Int} {i : Nat} {l : List Int} (h : Bf t r i l) (hi : l.length ≤ i) (h0 : r ≠ 0) (x : Int) : x ∈ l ↔ Rch t true r x := by
  refine ⟨h.from' x, fun hx => ?_⟩
  induction hx with
  | root => exact h.root
  | kid _ b c _ ih =>
    obtain ⟨j, hj, rfl⟩ := List.getElem_of_mem ih
    exact h.clo j hj (by omega) _ b c
theorem Bf.sort {t : Txn} {r : Int} {i : Nat} {l : List Int} (h : Bf t r i l) (hi : l.length ≤ i) (h0 : r ≠ 0) : (l.mergeSort fun x y => decide (x ≤ y)) = pg0 t true r := by
  have hp := List.mergeSort_perm l fun x y => decide (x ≤ y)
  have hs := List.pairwise_mergeSort (le := fun x y : Int => decide (x ≤ y)) (by simp; omega) (by simp; omega) l
  refine pg0_eq ?_ fun x => hp.mem_iff.trans (h.fin hi h0 x)
  have hn : (l.mergeSort fun x y => decide (x ≤ y)).Nodup := hp.nodup_iff.2 h.nd
  refine List.Pairwise.imp₂ (R := fun x y => decide (x ≤ y) = true) (S := (· ≠ ·)) (fun a b g1 g2 => ?_) hs hn
  have g1 := of_decide_eq_true g1
  omega
theorem ndA_bare (t : Txn) (n : Int) : ndA (bare t) n = ndA t n := by unfold ndA; rfl
theorem pgS_bad {t : Txn} {z : Bool} {r : Int} (h : r = 0 ∨ (ndA t r).2 = false) : pgS t z r = [] := by
  refine (pg0_eq (l := []) .nil fun x => ⟨fun q => (by cases q), fun q => ?_⟩).symm
  have g := q.top
  rcases h with h | h
  · exact absurd h g.2
  · rw [ndA_bare, h] at g; cases g.1
theorem Rch.bare {t : Txn} {z : Bool} {r n : Int} : Rch (bare t) z r n ↔ Rch t z r n := by
  constructor
  · intro h
    induction h with
    | root a b => rw [ndA_bare] at b; exact .root a b
    | kid _ b c d ih => rw [ndA_bare] at b c; exact .kid ih b c d
  · intro h
    induction h with
    | root a b => rw [← ndA_bare] at b; exact .root a b
    | kid _ b c d ih => rw [← ndA_bare] at b c; exact .kid ih b c d
theorem pgS_mem {t : Txn} {z : Bool} {r n : Int} : n ∈ pgS t z r ↔ Rch t z r n := pg0_mem.trans Rch.bare
theorem pg0_pgS (t : Txn) (z : Bool) (r : Int) : pg0 t z r = pgS t z r := pg0_eq pg0_sl fun x => pg0_mem.trans Rch.bare.symm
theorem SL.nd {l : List Int} (h : SL l) : l.Nodup := h.imp fun {a b} q => by omega
theorem sub_len {l : List Int} {t : Txn} (h : l.Nodup) (hm : ∀ x ∈ l, (ndA t x).2 = true) : l.length + lft t l ≤ zT t := by
  induction l with
  | nil => have := lft_le t []; simp; omega
  | cons x l ih =>
    obtain ⟨a, b⟩ := List.nodup_cons.1 h
    have h1 := ih b fun y hy => hm y (List.mem_cons_of_mem _ hy)
    have h2 := lft_lt (met := l) (hm x List.mem_cons_self) (by cases e : hasI l x with | false => rfl | true => exact absurd (hasI_iff.1 e) a)
    have h3 : lft t (x :: l) ≤ lft t (l ++ [x]) := lft_sub fun y hy => by
      rcases List.mem_append.1 hy with q | q
      · exact List.mem_cons_of_mem _ q
      · obtain rfl := List.mem_singleton.1 q; exact List.mem_cons_self
    simp only [List.length_cons]; omega
theorem pgS_len (t : Txn) (z : Bool) (r : Int) : (pgS t z r).length ≤ zT t := by
  have := sub_len (t := t) (pg0_sl (t := bare t) (z := z) (r := r)).nd (fun x hx => (pgS_mem.1 hx).ok)
  unfold pgS; omega
theorem led_iff2 {t : Txn} {r : Int} : Led t false r ↔ (∀ n ∈ pgS t false r, ∀ k ∈ (ndA t n).1.kids, k ∈ pgS t false r) ∧ (r = 0 ∨ r ∈ pgS t false r) := by
  constructor
  · rintro (rfl | ⟨h1, h2⟩)
    · rw [pgS_bad (.inl rfl)]; simp
    · by_cases h0 : r = 0
      · subst h0; rw [pgS_bad (.inl rfl)]; simp
      · refine ⟨fun n hn k hk => ?_, .inr (pgS_mem.2 (.root h0 h1))⟩
        obtain ⟨a, b⟩ := h2 n hn k hk
        exact pgS_mem.2 (.kid (pgS_mem.1 hn) hk a b)
  · rintro ⟨h1, h2 | h2⟩
    · exact .inl h2
    · refine .inr ⟨(pgS_mem.1 h2).ok, fun n hn k hk => ?_⟩
      have h3 := pgS_mem.1 (h1 n hn k hk)
      exact ⟨h3.ok, .inr h3.no0⟩
theorem wlk_fold (t : Txn) (f : Nat) : ∀ (ks : List Int) (a : List Int), lft t a ≤ f → Wk t (· ∈ ks) a (ks.foldl (fun l k => wlk t f k l) a)
  | [], a, _ => .refl
  | k :: ks, a, ha => by
    have w1 := (wlk_wk t f k a ha).1
    have v1 := wlk_fold t f ks (wlk t f k a) (Nat.le_trans (lft_sub w1.sub) ha)
    exact (w1.mono fun x e => by rw [e]; exact List.mem_cons_self).trans (v1.mono fun x e => List.mem_cons_of_mem _ e)
theorem ins_at {l : List Int} {n : Int} {k : Nat} (hs : SL l) (hk : k ≤ l.length) (h1 : ∀ j (h : j < l.length), k ≤ j → n < l[j]) (h2 : k = 0 ∨ ∃ h : k - 1 < l.length, l[k - 1] ≤ n) (hn : hasI l n = false) : insS l n = l.take k ++ [n] ++ l.drop k := by
  have hm : ∀ j (h : j < l.length), l[j] ≠ n := fun j h e => by rw [hasI_at h e] at hn; cases hn
  have A : ∀ x ∈ l.take k, x < n := by
    intro x hx
    obtain ⟨j, hj, rfl⟩ := List.getElem_of_mem hx
    rw [List.length_take] at hj
    rw [List.getElem_take]
    rcases h2 with h2 | ⟨h, h2⟩
    · omega
    · have h3 := hm (k - 1) h
      by_cases e : j = k - 1
      · subst e; omega
      · have := List.pairwise_iff_getElem.1 hs j (k - 1) (by omega) h (by omega)
        omega
  have B : ∀ x ∈ l.drop k, n < x := by
    intro x hx
    obtain ⟨j, hj, rfl⟩ := List.getElem_of_mem hx
    rw [List.getElem_drop]
    rw [List.length_drop] at hj
    exact h1 _ (by omega) (by omega)
  unfold insS
  rw [if_neg (by rw [hn]; simp)]
  have e1 : l.filter (· < n) = l.take k := by
    conv => lhs; rw [← List.take_append_drop k l]
    rw [List.filter_append, List.filter_eq_self.2 (fun x hx => by simp [A x hx]), List.filter_eq_nil_iff.2 (fun x hx => by have := B x hx; simp; omega), List.append_nil]
  have e2 : l.filter (n < ·) = l.drop k := by
    conv => lhs; rw [← List.take_append_drop k l]
    have f1 : (l.drop k).filter (n < ·) = l.drop k := List.filter_eq_self.2 fun x hx => by simp [B x hx]
    have f2 : (l.take k).filter (n < ·) = [] := List.filter_eq_nil_iff.2 fun x hx => by have := A x hx; simp; omega
    rw [List.filter_append, f1, f2, List.nil_append]
  rw [e1, e2]
theorem shs {l : List Int} {k : Nat} {y v : Int} (hk : k ≤ l.length) : (l.take k ++ [y] ++ l.drop k).set k v = l.take k ++ [v] ++ l.drop k := by
  have e : (l.take k).length = k := by simp; omega
  rw [List.append_assoc, List.set_append_right _ _ (by omega), e, Nat.sub_self]; simp
theorem shf {l : List Int} {k : Nat} {y : Int} (h : 0 < k) (hk : k ≤ l.length) : (l.take k ++ [y] ++ l.drop k).set k (l[k - 1]) = l.take (k - 1) ++ [l[k - 1]] ++ l.drop (k - 1) := by
  obtain ⟨m, rfl⟩ : ∃ m, k = m + 1 := ⟨k - 1, by omega⟩
  rw [shs hk]
  simp only [Nat.add_sub_cancel]
  rw [take_one (by omega), List.drop_eq_getElem_cons (i := m) (by omega)]; simp
theorem shg {l : List Int} {k : Nat} {y : Int} (h : 0 < k) (hk : k ≤ l.length) (h2 : k - 1 < (l.take k ++ [y] ++ l.drop k).length) : (l.take k ++ [y] ++ l.drop k)[k - 1] = l[k - 1] := by
  rw [List.getElem_append_left (by simp; omega), List.getElem_append_left (by simp; omega), List.getElem_take]
theorem pgS_dn {t t' : Txn} {z : Bool} {r : Int} (h : t.d = t'.d) (h2 : t.new = t'.new) : pgS t z r = pgS t' z r := by
  show pg0 ⟨t.d, ⟨0, 0⟩, 0, t.new⟩ z r = pg0 ⟨t'.d, ⟨0, 0⟩, 0, t'.new⟩ z r
  rw [h, h2]
theorem zT_onD (t : Txn) : zT (onD t) ≤ zT t := by simp [zT, zFrS, cnt]
theorem nwI_iff {n : Int} {l : List Fre} : nwI n l = -1 ↔ ∀ j (h : j < l.length), l[j].n ≠ n := by
  constructor
  · intro h
    rcases nwI_cases n l with ⟨_, h2⟩ | ⟨i, _, h2, _⟩
    · exact h2
    · omega
  · exact nwI_no
theorem nwI_lt {n : Int} {l : List Fre} : nwI n l < 0 ↔ nwI n l = -1 := by
  rcases nwI_cases n l with ⟨h2, _⟩ | ⟨i, _, h2, _⟩ <;> rw [h2] <;> omega
theorem frT_small {t : Txn} {i : Nat} (h : i ≤ 2) : frT t i = [] := by
  match i, h with
  | 0, _ => rfl
  | 1, _ => rw [frT_no (i := 0) (.inl (by omega))]; rfl
  | 2, _ => exact frT_two
theorem frL_end {t : Txn} {i : Nat} (h : t.d.secs.length ≤ i) (h2 : i ≤ max 2 t.d.secs.length) : frT t i = frL t := by
  unfold frL
  by_cases h3 : 2 ≤ t.d.secs.length
  · rw [show i = t.d.secs.length by omega]
  · rw [frT_small (by omega), frT_small (by omega)]

end Go.Proofs.YtkggnekdjdnhiaaGreat
