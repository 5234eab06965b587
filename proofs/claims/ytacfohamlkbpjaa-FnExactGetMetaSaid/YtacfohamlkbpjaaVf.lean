/- Pages and roots. -/
import Derived.Test.YtacfohamlkbpjaaVe
namespace Go.Proofs.Ytacfohamlkbpjaa
open Go Go.RowKit Go.IntWalk
open Enc (sz cs)

theorem cs_drop0 {α : Type} [Enc α] {o : Bool} {xs : List α} {a n : Nat} (h : a + n ≤ xs.length) : ((cs o xs).drop (a * sz α)).take (n * sz α) = cs o ((xs.drop a).take n) := by
  have e : xs = xs.take a ++ ((xs.drop a).take n ++ (xs.drop a).drop n) := by rw [List.take_append_drop, List.take_append_drop]
  conv => lhs; rw [e, Enc.app, Enc.app]
  rw [List.drop_left' (by rw [cs_len, List.length_take, Nat.min_eq_left (by omega)]), List.take_left' (by rw [cs_len, List.length_take, List.length_drop, Nat.min_eq_left (by omega)])]
theorem sl_ro {α : Type} [Enc α] {xs : List α} {a n m s : Nat} (h : a + n ≤ xs.length) (hm : xs.length = m := by first | rfl | simp) (hs : sz α = s := by rfl) : sliceT (.sl false m s (cs false xs)) s a (a + n) = some (.sl false ((xs.drop a).take n).length s (cs false ((xs.drop a).take n))) := by
  subst hm hs
  have := cs_drop0 (o := false) h
  simp only [sliceT]
  rw [if_pos (Nat.le_add_right a n), if_pos ⟨h, trivial⟩, show a + n - a = n by omega, this, List.length_take, List.length_drop, Nat.min_eq_left (by omega)]
theorem sl_to {α : Type} [Enc α] {xs : List α} {n m s : Nat} (h : n ≤ xs.length) (hm : xs.length = m := by first | rfl | simp) (hs : sz α = s := by rfl) : sliceT (.sl false m s (cs false xs)) s 0 n = some (.sl false (xs.take n).length s (cs false (xs.take n))) := by
  have := sl_ro (a := 0) (n := n) (by omega) hm hs
  simpa using this
theorem sl_from {α : Type} [Enc α] {xs : List α} {a m s : Nat} (h : a ≤ xs.length) (hm : xs.length = m := by first | rfl | simp) (hs : sz α = s := by rfl) : sliceT (.sl false m s (cs false xs)) s a m = some (.sl false (xs.drop a).length s (cs false (xs.drop a))) := by
  have := sl_ro (a := a) (n := m - a) (by omega) hm hs
  rw [show a + (m - a) = m by omega] at this
  rw [this, List.take_of_length_le (by simp; omega)]
theorem bndN {d n : Nat} {k : IntKind} : boundT d (some (.v false [.prim (.int k (n : Int))])) = some n := by
  simp only [boundT]; rw [if_pos (by omega)]; simp
theorem strOf_ro {b : List UInt8} : strOf (cs false b) = some b := strOf_cs

theorem byteC_sb (x : List UInt8) : byteC (sb x).data.toList = cs false x := by simp; rfl
theorem srcO {α : Type} [Enc α] {nd : Nat → Option Node} {id n s : Nat} {o : Bool} {xs : List α} (hnd : nd id = some (o, cs true xs)) (hf : cs true xs = cs false xs) (hn : xs.length = n := by first | rfl | simp) (hs : sz α = s := by rfl) :
    srcT nd s (.v false [.ref id 0 n s]) = some (n, cs true xs) := by
  subst hn hs
  have h2 : (((cs true xs).drop 0).take (xs.length * sz α)).all (fun c => !c.own?) = true := by
    rw [cs_whole, hf]; exact cs_now xs
  simp only [srcT, hnd]
  rw [if_pos ⟨trivial, by rw [cs_len]; omega, h2⟩, cs_whole]
theorem gT_no {b : List UInt8} {p : Int} (h : ¬ ((gU b p).2.2 = true ∧ (gU b p).1 ≤ b.length - (gU b p).2.1)) : gT b p = ([], 0, false) := by
  cases e : (gT b p).2.2 with
  | false => exact gT_bad e
  | true => obtain ⟨h1, h2, _⟩ := gT_ok e; exact (h ⟨h1, h2⟩).elim
theorem gT_yes {b : List UInt8} {p : Int} (h1 : (gU b p).2.2 = true) (h2 : (gU b p).1 ≤ b.length - (gU b p).2.1) : gT b p = ((b.drop (gU b p).2.1).take (gU b p).1, (gU b p).2.1 + (gU b p).1, true) := by
  unfold gT
  generalize gU b p = r at *
  obtain ⟨n, q, o⟩ := r
  dsimp only at h1 h2 ⊢
  subst h1
  simp only [if_pos h2]
theorem gS_no {b : List UInt8} (h : ¬ (4 ≤ b.length ∧ ptS (b.take (b.length - 4)) = b)) : gS b = ([], false) := by unfold gS; rw [if_neg h]
theorem gS_yes {b : List UInt8} (h1 : 4 ≤ b.length) (h2 : ptS (b.take (b.length - 4)) = b) : gS b = (b.take (b.length - 4), true) := by unfold gS; rw [if_pos ⟨h1, h2⟩]
theorem bl_eq {a b : List UInt8} (h : (sb a).toList = (sb b).toList) : a = b := by
  have e : ∀ x : List UInt8, (sb x).toList = x := fun x => by
    rw [ByteArray.toList_eq]
  rw [e, e] at h; exact h
theorem bct {b : Bool} (h : b = false) (h2 : b = true) : False := by subst h; cases h2
def inB (n l h : Int) : Bool := decide (l ≤ n) && decide (n ≤ h)
theorem inB_iff {n l h : Int} : inB n l h = true ↔ l ≤ n ∧ n ≤ h := by simp [inB]
def metaOk (m : Met) : Bool := inB m.gen 0 1000000 && (decide (m.root = 0) || inB m.root 2 47)
def ptP (k : Int) (b : List UInt8) : List UInt8 := if inB k 1 2 = true ∧ b.length ≤ 240 then ptS (ptT (ptU [] k) b) else []
theorem ptP_yes {k : Int} {b : List UInt8} (h : inB k 1 2 = true) (hb : b.length ≤ 240) : ptP k b = ptS (ptT (ptU [] k) b) := if_pos ⟨h, hb⟩
theorem ptP_no {k : Int} {b : List UInt8} (h : inB k 1 2 = false) : ptP k b = [] := if_neg (by rw [h]; simp)
theorem ptP_no2 {k : Int} {b : List UInt8} (h : 240 < b.length) : ptP k b = [] := if_neg (by omega)
def ptM (m : Met) : List UInt8 := if metaOk m = true then ptP 2 (ptU (ptU [] m.gen) m.root) else []
theorem ptP_len (k : Int) (b : List UInt8) : (ptP k b).length ≤ 260 := by
  unfold ptP
  split
  · rename_i h
    have h1 := uenc_len (clN_le k)
    have h2 := uenc_len (clN_le b.length)
    simp [ptS, be4]; omega
  · simp
theorem ptM_len (m : Met) : (ptM m).length ≤ 260 := by
  unfold ptM
  split
  · exact ptP_len _ _
  · simp

theorem ptP_ne {k : Int} {s b : List UInt8} (h : ptP k s = b) (hb : b ≠ []) : inB k 1 2 = true ∧ s.length ≤ 240 ∧ ptS (ptT (ptU [] k) s) = b := by
  unfold ptP at h
  split at h
  · rename_i h1; exact ⟨h1.1, h1.2, h⟩
  · exact absurd h.symm hb

/-- A page: its kind, its body. -/
def gP (b : List UInt8) : Nat × List UInt8 × Bool :=
  if (gS b).2 = true ∧ (gU (gS b).1 0).2.2 = true ∧ (gT (gS b).1 (gU (gS b).1 0).2.1).2.2 = true ∧ 1 ≤ (gU (gS b).1 0).1 ∧ ptP (gU (gS b).1 0).1 (gT (gS b).1 (gU (gS b).1 0).2.1).1 = b then
    ((gU (gS b).1 0).1, (gT (gS b).1 (gU (gS b).1 0).2.1).1, true) else (0, [], false)

/-- The two ways to look a page over say the same. -/
theorem gP_iff {b : List UInt8} (h1 : (gS b).2 = true) (h2 : (gU (gS b).1 0).2.2 = true) (h3 : (gT (gS b).1 (gU (gS b).1 0).2.1).2.2 = true) :
    ((gT (gS b).1 (gU (gS b).1 0).2.1).2.1 = (gS b).1.length ∧ inB (gU (gS b).1 0).1 1 2 = true ∧ (gT (gS b).1 (gU (gS b).1 0).2.1).1.length ≤ 240) ↔ (1 ≤ (gU (gS b).1 0).1 ∧ ptP (gU (gS b).1 0).1 (gT (gS b).1 (gU (gS b).1 0).2.1).1 = b) := by
  obtain ⟨hl, _, hb⟩ := gS_ok h1
  generalize (gS b).1 = x at *
  obtain ⟨_, hk, r, e1, e2⟩ := gU_ok h2
  obtain ⟨k1, k2, k3⟩ := gT_ok h3
  obtain ⟨_, hn, r2, f1, f2⟩ := gU_ok k1
  rw [k3]
  generalize gU x 0 = g at *
  generalize gU x g.2.1 = q at *
  simp only [Int.toNat_natCast] at f1 f2
  have hne : b ≠ [] := fun e => by rw [e] at hl; simp at hl
  have e1' : x = uenc g.1 ++ r := by simpa using e1
  have e2' : g.2.1 = (uenc g.1).length := by simpa using e2
  have hd : x.drop g.2.1 = r := by rw [e2', e1', List.drop_left]
  have hr : r = uenc q.1 ++ r2 := hd.symm.trans f1
  have hx0 : x = uenc g.1 ++ uenc q.1 ++ r2 := by rw [List.append_assoc, ← hr, ← e1']
  have hql0 : q.2.1 = (uenc g.1 ++ uenc q.1).length := by rw [f2, e2']; simp
  have hs : x.drop q.2.1 = r2 := by rw [hql0, hx0, List.drop_left]
  have hql : q.2.1 ≤ x.length := by rw [hql0, hx0]; simp
  have hlen : ((x.drop q.2.1).take q.1).length = q.1 := by simp; omega
  have hx : x = uenc g.1 ++ uenc q.1 ++ x.drop q.2.1 := by rw [hs]; exact hx0
  constructor
  · rintro ⟨g1, g2, g3⟩
    have g1' : q.2.1 + q.1 = x.length := g1
    have g3' : ((x.drop q.2.1).take q.1).length ≤ 240 := g3
    have ht : (x.drop q.2.1).take q.1 = x.drop q.2.1 := List.take_of_length_le (by simp; omega)
    refine ⟨by have := inB_iff.1 g2; omega, ?_⟩
    show ptP g.1 ((x.drop q.2.1).take q.1) = b
    rw [ptP_yes g2 g3', ← hb]
    congr 1
    unfold ptT ptU
    rw [hlen, clN_nat hk, clN_nat hn, List.nil_append, ht, ← hx]
  · rintro ⟨g1, g2⟩
    obtain ⟨p1, p2, p3⟩ := ptP_ne g2 hne
    rw [← hb] at p3
    have p4 := ptS_inj p3
    refine ⟨?_, p1, p2⟩
    show q.2.1 + q.1 = x.length
    have p5 := congrArg List.length p4
    unfold ptT ptU at p5
    simp only [hlen, clN_nat hk, clN_nat hn, List.nil_append, List.length_append] at p5
    have : q.2.1 = (uenc g.1).length + (uenc q.1).length := by rw [f2, e2']
    omega

theorem gP_no {b : List UInt8} (h : ¬ ((gS b).2 = true ∧ (gU (gS b).1 0).2.2 = true ∧ (gT (gS b).1 (gU (gS b).1 0).2.1).2.2 = true ∧ 1 ≤ (gU (gS b).1 0).1 ∧ ptP (gU (gS b).1 0).1 (gT (gS b).1 (gU (gS b).1 0).2.1).1 = b)) : gP b = (0, [], false) := by
  unfold gP; rw [if_neg h]
theorem gP_yes {b : List UInt8} (h1 : (gS b).2 = true) (h2 : (gU (gS b).1 0).2.2 = true) (h3 : (gT (gS b).1 (gU (gS b).1 0).2.1).2.2 = true) (h4 : 1 ≤ (gU (gS b).1 0).1) (h5 : ptP (gU (gS b).1 0).1 (gT (gS b).1 (gU (gS b).1 0).2.1).1 = b) :
    gP b = ((gU (gS b).1 0).1, (gT (gS b).1 (gU (gS b).1 0).2.1).1, true) := by
  unfold gP; rw [if_pos ⟨h1, h2, h3, h4, h5⟩]
theorem gS_len {b : List UInt8} : (gS b).1.length ≤ b.length := by
  unfold gS; split
  · simp
  · simp
theorem gT_len {b : List UInt8} {p : Int} : (gT b p).1.length ≤ b.length := by
  unfold gT; split
  · split
    · simp; omega
    · simp
  · simp
theorem gP_bad {b : List UInt8} (h : (gP b).2.2 = false) : gP b = (0, [], false) := by
  unfold gP at *
  split at h
  · simp at h
  · rename_i h1; rw [if_neg h1]
theorem gP_ok {b : List UInt8} (h : (gP b).2.2 = true) : 4 ≤ b.length ∧ inB (gP b).1 1 2 = true ∧ (gP b).2.1.length ≤ 240 ∧ ptP (gP b).1 (gP b).2.1 = b := by
  unfold gP at *
  split at h
  · rename_i h1
    rw [if_pos h1]
    obtain ⟨a1, a2, a3, a4, a5⟩ := h1
    have := (gP_iff a1 a2 a3).2 ⟨a4, a5⟩
    exact ⟨(gS_ok a1).1, this.2.1, this.2.2, a5⟩
  · simp at h

/-- A root. -/
def gM (b : List UInt8) : Met × Bool :=
  if (gP b).2.2 = true ∧ (gU (gP b).2.1 0).2.2 = true ∧ (gU (gP b).2.1 (gU (gP b).2.1 0).2.1).2.2 = true ∧ ptM ⟨(gU (gP b).2.1 0).1, (gU (gP b).2.1 (gU (gP b).2.1 0).2.1).1⟩ = b then
    (⟨(gU (gP b).2.1 0).1, (gU (gP b).2.1 (gU (gP b).2.1 0).2.1).1⟩, true) else (⟨0, 0⟩, false)

theorem ptM_ne {m : Met} {b : List UInt8} (h : ptM m = b) (hb : b ≠ []) : metaOk m = true ∧ ptP 2 (ptU (ptU [] m.gen) m.root) = b := by
  unfold ptM at h
  split at h
  · rename_i h1; exact ⟨h1, h⟩
  · exact absurd h.symm hb

theorem uenc_inj {n m : Nat} {r r' : List UInt8} (hn : n ≤ 1000000) (hm : m ≤ 1000000) (h : uenc n ++ r = uenc m ++ r') : n = m ∧ r = r' := by
  have h1 := dU_enc hn r
  rw [h, dU_enc hm r'] at h1
  have h2 : m = n := congrArg Prod.fst h1
  subst h2
  exact ⟨rfl, List.append_cancel_left h⟩

theorem ptP_inj {k k' : Int} {s s' b : List UInt8} (h : ptP k s = b) (h' : ptP k' s' = b) (hb : b ≠ []) : k = k' ∧ s = s' := by
  obtain ⟨a1, a2, a3⟩ := ptP_ne h hb
  obtain ⟨b1, b2, b3⟩ := ptP_ne h' hb
  have e := ptS_inj (a3.trans b3.symm)
  unfold ptT ptU at e
  rw [List.nil_append, List.nil_append, List.append_assoc, List.append_assoc] at e
  obtain ⟨e1, e2⟩ := uenc_inj (clN_le _) (clN_le _) e
  rw [clN_nat (by omega), clN_nat (by omega)] at e2
  obtain ⟨e3, e4⟩ := uenc_inj (by omega) (by omega) e2
  have a4 := inB_iff.1 a1
  have b4 := inB_iff.1 b1
  have c1 := clN_int (n := k) (by omega)
  have c2 := clN_int (n := k') (by omega)
  rw [e1] at c1
  exact ⟨c1.symm.trans c2, e4⟩

theorem gM_iff {b : List UInt8} (h1 : (gP b).2.2 = true) (h2 : (gU (gP b).2.1 0).2.2 = true) (h3 : (gU (gP b).2.1 (gU (gP b).2.1 0).2.1).2.2 = true) :
    (((gP b).1 : Int) = 2 ∧ (gU (gP b).2.1 (gU (gP b).2.1 0).2.1).2.1 = (gP b).2.1.length ∧ metaOk ⟨(gU (gP b).2.1 0).1, (gU (gP b).2.1 (gU (gP b).2.1 0).2.1).1⟩ = true) ↔
    ptM ⟨(gU (gP b).2.1 0).1, (gU (gP b).2.1 (gU (gP b).2.1 0).2.1).1⟩ = b := by
  obtain ⟨hl, hk, hs, hb⟩ := gP_ok h1
  generalize hx : (gP b).2.1 = x at *
  obtain ⟨_, n1, r, e1, e2⟩ := gU_ok h2
  obtain ⟨_, n2, r2, f1, f2⟩ := gU_ok h3
  generalize gU x 0 = u at *
  generalize gU x u.2.1 = q at *
  simp only [Int.toNat_natCast] at f1 f2
  have hne : b ≠ [] := fun e => by rw [e] at hl; simp at hl
  have e1' : x = uenc u.1 ++ r := by simpa using e1
  have e2' : u.2.1 = (uenc u.1).length := by simpa using e2
  have hd : x.drop u.2.1 = r := by rw [e2', e1', List.drop_left]
  have hr : r = uenc q.1 ++ r2 := hd.symm.trans f1
  have hxx : x = uenc u.1 ++ uenc q.1 ++ r2 := by rw [List.append_assoc, ← hr, ← e1']
  have hpt : ptU (ptU [] (u.1 : Nat)) (q.1 : Nat) = uenc u.1 ++ uenc q.1 := by
    unfold ptU; rw [clN_nat n1, clN_nat n2, List.nil_append]
  constructor
  · rintro ⟨g1, g2, g3⟩
    have : r2 = [] := by
      have h5 := congrArg List.length hxx
      simp only [List.length_append] at h5
      exact List.length_eq_zero_iff.1 (by omega)
    subst this
    unfold ptM
    rw [if_pos g3]
    show ptP 2 (ptU (ptU [] (u.1 : Nat)) (q.1 : Nat)) = b
    rw [hpt, ← List.append_nil (uenc _ ++ uenc _), ← hxx, ← g1]; exact hb
  · intro g
    obtain ⟨a1, a2⟩ := ptM_ne g hne
    have a3 : ptP 2 (ptU (ptU [] (u.1 : Nat)) (q.1 : Nat)) = b := a2
    rw [hpt] at a3
    obtain ⟨a4, a5⟩ := ptP_inj hb a3 hne
    refine ⟨a4, ?_, a1⟩
    have h5 := congrArg List.length a5
    simp only [List.length_append] at h5
    omega
theorem gM_no {b : List UInt8} (h : ¬ ((gP b).2.2 = true ∧ (gU (gP b).2.1 0).2.2 = true ∧ (gU (gP b).2.1 (gU (gP b).2.1 0).2.1).2.2 = true ∧ ptM ⟨(gU (gP b).2.1 0).1, (gU (gP b).2.1 (gU (gP b).2.1 0).2.1).1⟩ = b)) : gM b = (⟨0, 0⟩, false) := by
  unfold gM; rw [if_neg h]
theorem gM_yes {b : List UInt8} (h1 : (gP b).2.2 = true) (h2 : (gU (gP b).2.1 0).2.2 = true) (h3 : (gU (gP b).2.1 (gU (gP b).2.1 0).2.1).2.2 = true) (h4 : ptM ⟨(gU (gP b).2.1 0).1, (gU (gP b).2.1 (gU (gP b).2.1 0).2.1).1⟩ = b) :
    gM b = (⟨(gU (gP b).2.1 0).1, (gU (gP b).2.1 (gU (gP b).2.1 0).2.1).1⟩, true) := by
  unfold gM; rw [if_pos ⟨h1, h2, h3, h4⟩]
theorem gP_len {b : List UInt8} : (gP b).2.1.length ≤ 240 := by
  cases h : (gP b).2.2 with
  | true => exact (gP_ok h).2.2.1
  | false => rw [gP_bad h]; simp
theorem gM_bad {b : List UInt8} (h : (gM b).2 = false) : gM b = (⟨0, 0⟩, false) := by
  unfold gM at *
  split at h
  · simp at h
  · rename_i h1; rw [if_neg h1]

end Go.Proofs.Ytacfohamlkbpjaa
