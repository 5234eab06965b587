/- Functions of the program, each with what it gives back. -/
import Derived.Test.YtmphoefccibibaaKe
import Derived.Test.YtmphoefccibibaaChecked
import Derived.IntWalk
import Derived.Test.YtmphoefccibibaaFb
namespace Go.Proofs.Ytmphoefccibibaa
open Go Go.RowKit Go.IntWalk
open Enc (sz cs)
attribute [local irreducible] IntKind.wrap

/-! ### Roots come back -/
theorem gS_pt (x : List UInt8) : gS (ptS x) = (x, true) := by
  have hl := ptS_len (b := x)
  have ht : (ptS x).take ((ptS x).length - 4) = x := by
    rw [hl, Nat.add_sub_cancel]; unfold ptS; exact List.take_left' rfl
  rw [gS_yes (by omega) (by rw [ht]), ht]
theorem gP_pt {k : Nat} {s : List UInt8} (hk : inB k 1 2 = true) (hs : s.length ≤ 240) : gP (ptP k s) = (k, s, true) := by
  have hk2 := inB_iff.1 hk
  have e : ptP k s = ptS (ptT (ptU [] k) s) := ptP_yes hk hs
  have hx : ptT (ptU [] k) s = uenc k ++ uenc s.length ++ s := by
    unfold ptT ptU; rw [clN_nat (n := s.length) (by omega), clN_nat (n := k) (by omega), List.nil_append]
  have g1 : gS (ptP k s) = (uenc k ++ uenc s.length ++ s, true) := by rw [e, hx]; exact gS_pt _
  have h1 : gU (uenc k ++ uenc s.length ++ s) 0 = (k, (uenc k).length, true) := by
    have := gU_enc (a := []) (r := uenc s.length ++ s) (n := k) (by omega) (p := 0) rfl
    rw [List.nil_append, List.length_nil, Nat.zero_add, ← List.append_assoc] at this
    exact this
  have h2 := gU_enc (a := uenc k) (r := s) (n := s.length) (by omega) (p := ((uenc k).length : Nat)) rfl
  have h3 : gT (uenc k ++ uenc s.length ++ s) ((uenc k).length : Nat) = (s, (uenc k).length + (uenc s.length).length + s.length, true) := by
    rw [gT_yes (by rw [h2]) (by rw [h2]; simp only [List.length_append]; omega), h2]
    simp only
    rw [List.drop_left' (by simp), List.take_length]
  have := gP_yes (b := ptP k s) (by rw [g1]) (by rw [g1]; simp only; rw [h1]) (by rw [g1]; simp only; rw [h1]; simp only; rw [h3]) (by rw [g1]; simp only; rw [h1]; simp only; omega) (by rw [g1]; simp only; rw [h1]; simp only; rw [h3])
  rw [this, g1]; simp only; rw [h1]; simp only; rw [h3]
theorem ptM_yes {m : Met} (h : metaOk m = true) : ptM m = ptP 2 (uenc (clN m.gen) ++ uenc (clN m.root)) := by
  unfold ptM; rw [if_pos h]; rfl
theorem ptM_bd (m : Met) : (uenc (clN m.gen) ++ uenc (clN m.root)).length ≤ 240 := by
  have h1 := uenc_len (clN_le m.gen)
  have h2 := uenc_len (clN_le m.root)
  rw [List.length_append]; omega
theorem gM_pt {m : Met} (h : metaOk m = true) : gM (ptM m) = (m, true) := by
  have hm : 0 ≤ m.gen ∧ m.gen ≤ 1000000 ∧ 0 ≤ m.root ∧ m.root ≤ 1000000 := by
    unfold metaOk at h
    simp only [Bool.and_eq_true, Bool.or_eq_true, decide_eq_true_eq, inB_iff] at h
    omega
  have e := ptM_yes h
  have g1 : gP (ptM m) = (2, uenc (clN m.gen) ++ uenc (clN m.root), true) := by rw [e]; exact gP_pt (k := 2) (by decide) (ptM_bd m)
  have h1 : gU (uenc (clN m.gen) ++ uenc (clN m.root)) 0 = (clN m.gen, (uenc (clN m.gen)).length, true) := by
    have := gU_enc (a := []) (r := uenc (clN m.root)) (n := clN m.gen) (clN_le _) (p := 0) rfl
    rw [List.nil_append, List.length_nil, Nat.zero_add] at this
    exact this
  have h2 : gU (uenc (clN m.gen) ++ uenc (clN m.root)) ((uenc (clN m.gen)).length : Nat) = (clN m.root, (uenc (clN m.gen)).length + (uenc (clN m.root)).length, true) := by
    have := gU_enc (a := uenc (clN m.gen)) (r := []) (n := clN m.root) (clN_le _) (p := ((uenc (clN m.gen)).length : Nat)) rfl
    rw [List.append_nil] at this
    exact this
  have hc : (⟨(clN m.gen : Nat), (clN m.root : Nat)⟩ : Met) = m := by
    obtain ⟨g, r⟩ := m
    simp only at hm ⊢
    rw [clN_int (by omega), clN_int (by omega)]
  have := gM_yes (b := ptM m) (by rw [g1]) (by rw [g1]; simp only; rw [h1]) (by rw [g1]; simp only; rw [h1]; simp only; rw [h2]) (by rw [g1]; simp only; rw [h1]; simp only; rw [h2, hc])
  rw [this, g1]; simp only; rw [h1]; simp only; rw [h2, hc]
theorem gM_ok {b : List UInt8} (h : (gM b).2 = true) : metaOk (gM b).1 = true ∧ ptM (gM b).1 = b := by
  unfold gM at *
  split at h
  · rename_i h1
    rw [if_pos h1]
    have hl := (gP_ok h1.1).1
    exact ⟨(ptM_ne h1.2.2.2 (fun e => by rw [e] at hl; simp at hl)).1, h1.2.2.2⟩
  · simp at h
theorem gM_cut {m : Met} (h : metaOk m = true) {k : Nat} (hk : k < (ptM m).length) : (gM ((ptM m).take k)).2 = false := by
  cases e : (gM ((ptM m).take k)).2 with
  | false => rfl
  | true =>
    exfalso
    obtain ⟨a0, a1⟩ := gM_ok e
    have hne : (ptM m).take k ≠ [] := by
      intro q
      have := gM_nil
      rw [← q, e] at this; cases this
    generalize (gM ((ptM m).take k)).1 = m' at *
    rw [ptM_yes a0] at a1
    obtain ⟨_, _, b3⟩ := ptP_ne a1 hne
    have hne2 : ptM m ≠ [] := fun q => hne (by rw [q, List.take_nil])
    obtain ⟨_, _, c3⟩ := ptP_ne (ptM_yes h).symm hne2
    have e5 : ptM m = (ptM m).take k ++ (ptM m).drop k := (List.take_append_drop k _).symm
    have hd : (ptM m).drop k ≠ [] := by
      intro q
      have := congrArg List.length q
      rw [List.length_drop] at this
      simp at this; omega
    generalize (ptM m).drop k = r at *
    rw [← b3, ← c3] at e5
    have l1 := ptM_bd m
    have l2 := ptM_bd m'
    generalize uenc (clN m.gen) ++ uenc (clN m.root) = x at *
    generalize uenc (clN m'.gen) ++ uenc (clN m'.root) = y at *
    have e6 := e5
    unfold ptS ptT ptU at e6
    rw [List.nil_append, List.append_assoc, List.append_assoc, List.append_assoc, List.append_assoc, List.append_assoc, List.append_assoc] at e6
    have e7 := (uenc_inj (clN_le _) (clN_le _) (List.append_cancel_left e6)).1
    rw [clN_nat (by omega), clN_nat (by omega)] at e7
    have e8 := congrArg List.length e5
    rw [List.length_append, ptS_len, ptS_len] at e8
    unfold ptT ptU at e8
    simp only [List.length_append, e7] at e8
    have : r.length = 0 := by omega
    exact hd (List.length_eq_zero_iff.1 this)

end Go.Proofs.Ytmphoefccibibaa
