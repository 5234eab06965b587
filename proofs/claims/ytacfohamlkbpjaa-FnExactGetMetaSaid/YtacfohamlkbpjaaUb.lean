/- .. and it is enough. -/
import Derived.Test.YtacfohamlkbpjaaUa
namespace Go.Proofs.Ytacfohamlkbpjaa
open Go Go.RowKit

theorem cut_ne {l : List Cell} {off s : Nat} {r : List Cell} (h : cut l off s = some r) (hs : s ≠ 0) : off + s ≤ l.length ∧ (l.drop off).take s = r := by
  rcases cut_some h with ⟨e, _⟩ | h
  · exact absurd e hs
  · exact h

theorem rowK_ok {r : Bool} {l : List Cell} {K : KT} (h : match r with | true => K (.v true l) [] | false => K (.v false l) []) : K (.v r l) [] := by
  cases r <;> exact h

theorem effW_ok {P : Program} {nd : Nat → Option Node} {nid : Nat} {ev : Operand → TV} {op : Op} {K : KT} (h : effW P nd nid ev op K) : ∃ r l, eff P nd nid ev op = some (r, l) ∧ K r l := by
  cases op <;> simp only [effW] at h <;> try (exact h.elim)
  case move x => exact ⟨_, _, rfl, fv_ok h⟩
  case assign x => exact ⟨_, _, rfl, fv_ok h⟩
  case pick c a b =>
    split at h
    · rename_i t e
      split at h
      · exact ⟨_, _, by simp [eff, e], fv_ok h⟩
      · exact ⟨_, _, by simp [eff, e], fv_ok h⟩
    · exact h.elim
  case alloc t =>
    split at h
    · rename_i z e
      exact ⟨_, _, by simp [eff, e], fl_ok h⟩
    · exact h.elim
  case box t x =>
    split at h
    · rename_i b l e
      exact ⟨_, _, by simp [eff, e], h⟩
    · exact h.elim
  case build t parts =>
    split at h
    · rename_i fs z hu hz
      split at h
      · rename_i ha
        obtain ⟨r, h1, h2⟩ := fillW_ok h
        exact ⟨_, _, by simp only [eff, hu, hz]; rw [if_pos ha, h1]; rfl, h2⟩
      · exact h.elim
    · exact h.elim
  case buildSlice t n parts =>
    split at h
    · rename_i e he
      split at h
      · rename_i z hz
        split at h
        · rename_i hd
          have hd := of_decide_eq_true hd
          obtain ⟨r, h1, h2⟩ := fillW_ok h
          exact ⟨_, _, by simp only [eff, he, hz]; rw [if_pos hd, h1]; rfl, litK_ok h2⟩
        · exact h.elim
      · exact h.elim
    · exact h.elim
  case load t a =>
    split at h
    · rename_i s r hs hr
      split at h
      · rename_i hd
        simp only [Bool.and_eq_true, Bool.or_eq_true, decide_eq_true_eq] at hd
        split at h
        · rename_i id off e
          split at h
          · rename_i o cs hid
            obtain ⟨l, h1, h⟩ := litK_ok h
            split at h
            · rename_i hn
              obtain ⟨g1, rfl⟩ := cut_ne h1 hd.2
              refine ⟨_, _, ?_, rowK_ok (fl_ok h)⟩
              simp only [eff, hs, hr, e, hid]
              rw [if_pos hd.1, if_pos ⟨g1, hn⟩]
            · exact h.elim
          · exact h.elim
        · rename_i l e
          obtain ⟨l', h1, h⟩ := litK_ok h
          obtain ⟨g1, rfl⟩ := cut_ne h1 hd.2
          refine ⟨_, _, ?_, rowK_ok (fl_ok h)⟩
          simp only [eff, hs, hr, e]
          rw [if_pos hd.1, if_pos (by omega)]
          simp
        · exact h.elim
      · exact h.elim
    · exact h.elim
  case store t a x =>
    split at h
    · rename_i id off b l e1 e2
      split at h
      · rename_i cs hid hd
        obtain ⟨cs', h1, h2⟩ := h
        obtain ⟨g1, rfl⟩ := put_some h1
        have hd := of_decide_eq_true hd
        refine ⟨_, _, ?_, h2⟩
        simp only [eff, e1, e2, hid]
        rw [if_pos ⟨hd, g1⟩]
      · exact h.elim
    · exact h.elim
  case nilCheck x =>
    split at h
    · rename_i id off e; exact ⟨_, _, by simp [eff, e], h⟩
    · rename_i l e; exact ⟨_, _, by simp [eff, e], h⟩
    · exact h.elim
  case binOp op t x y q =>
    split at h
    · rename_i a b e1 e2
      obtain ⟨r, h1, h2⟩ := binW_ok h
      exact ⟨_, _, by simp [eff, e1, e2, h1], h2⟩
    · rename_i l l' e1 e2
      obtain ⟨r, h1, h⟩ := h
      split at h
      · exact ⟨_, _, by simp [eff, e1, e2, h1], h⟩
      · exact ⟨_, _, by simp [eff, e1, e2, h1], h⟩
      · exact h.elim
    · exact h.elim
  case unOp op t x =>
    split at h
    · rename_i a e
      split at h
      · split at h
        · exact ⟨_, _, by simp [eff, e, unT], h⟩
        · exact ⟨_, _, by simp [eff, e, unT], h⟩
      · obtain ⟨c, rfl, h⟩ := h; exact ⟨_, _, by simp only [eff, e]; rfl, h⟩
      · obtain ⟨c, rfl, h⟩ := h; exact ⟨_, _, by simp only [eff, e]; rfl, h⟩
      · exact h.elim
    · exact h.elim
  case convert s d x =>
    split at h
    · rename_i _ k _ n hs hd e
      obtain ⟨c, rfl, h⟩ := h
      exact ⟨_, _, by simp [eff, hs, hd, e], h⟩
    · rename_i b hs hd e
      exact ⟨_, _, by simp [eff, hs, hd, e], h⟩
    · rename_i e' b hs hd e
      split at h
      · rename_i hu
        obtain ⟨n, N, rfl, rfl, h⟩ := h
        exact ⟨_, _, by simp [eff, hs, hd, e, hu], h⟩
      · exact h.elim
    · rename_i e' c hs hd e
      split at h
      · exact h.elim
      · rename_i c0 _ c1 hu hp
        obtain ⟨n, N, bs, h1, h2, h⟩ := h
        refine ⟨_, _, ?_, h⟩
        have h1' : srcT nd 1 (ev x) = some (n, N) := by rw [e]; exact h1
        cases c0 with
        | prim v => exact (hp v rfl).elim
        | _ => simp [eff, hs, hd, e, hu, h1, h2]
      · exact h.elim
    · exact h.elim
  case makeSlice t l c =>
    split at h
    · rename_i n n' e e1 e2 e3
      split at h
      · rename_i i z hi hz
        have h := fl_ok h
        split at h
        · rename_i hd
          have hd := of_decide_eq_true hd
          obtain ⟨⟨h1, h2, h3, h4⟩, q, s, N, rfl, rfl, rfl, h⟩ := h
          refine ⟨_, _, ?_, h⟩
          simp only [eff, e1, e2, e3, hi, hz]
          rw [if_pos ⟨h1, h2, h3, h4, hd⟩]
        · exact h.elim
      · exact h.elim
    · exact h.elim
  case slice t x lo hi mx =>
    cases mx with
    | some _ => exact h.elim
    | none =>
    simp only at h
    split at h
    · rename_i b e
      split at h
      · rename_i hu
        obtain ⟨l, hh, h1, h2, h3, h⟩ := h
        refine ⟨_, _, ?_, h⟩
        simp only [eff, e, hu, h1, h2]
        rw [if_pos h3]
      · exact h.elim
    · rename_i c hnp e
      split at h
      · exact h.elim
      · rename_i c1 hnp2
        split at h
        · rename_i e' he'
          split at h
          · rename_i s n hs hn
            obtain ⟨l, hh, c', h1, h2, h3, h⟩ := h
            refine ⟨_, _, ?_, h⟩
            cases c with
            | prim v => exact (hnp2 v rfl).elim
            | _ => simp [eff, e, he', hs, hn, h1, h2, h3]
          · exact h.elim
        · exact h.elim
    · exact h.elim
  case fieldAddr s x f =>
    split at h
    · rename_i fd hf
      split at h
      · rename_i q hs
        split at h
        · rename_i id off e; exact ⟨_, _, by simp [eff, hf, hs, e], litK_ok h⟩
        · rename_i l e; exact ⟨_, _, by simp [eff, hf, hs, e], litK_ok h⟩
        · exact h.elim
      · exact h.elim
    · exact h.elim
  case field s x f =>
    split at h
    · rename_i fd hf
      split at h
      · rename_i n r l hs hr e
        split at h
        · rename_i hd
          simp only [Bool.and_eq_true, Bool.or_eq_true, decide_eq_true_eq] at hd
          obtain ⟨l', h1, h⟩ := litK_ok (litK_ok h)
          obtain ⟨g1, rfl⟩ := cut_ne h1 hd.2
          refine ⟨_, _, ?_, rowK_ok (fl_ok h)⟩
          simp only [eff, hf, hs, hr, e]
          rw [if_pos ⟨hd.1, g1⟩]
        · exact h.elim
      · exact h.elim
    · exact h.elim
  case indexAddr t x i =>
    split at h
    · rename_i e he
      split at h
      · rename_i s _ j hs e1
        split at h
        · rename_i id off n s' e2
          split at h
          · rename_i hd
            have hd := of_decide_eq_true hd
            obtain ⟨⟨h1, h2⟩, o, rfl, h⟩ := litK_ok h
            refine ⟨_, _, ?_, h⟩
            simp only [eff, he, hs, e1, e2]
            rw [if_pos ⟨h1, h2, hd⟩]
          · exact h.elim
        · rename_i n s' l e2
          split at h
          · rename_i hd
            have hd := of_decide_eq_true hd
            obtain ⟨⟨h1, h2⟩, l', rfl, h⟩ := litK_ok h
            refine ⟨_, _, ?_, h⟩
            simp only [eff, he, hs, e1, e2]
            rw [if_pos ⟨h1, h2, hd⟩]
          · exact h.elim
        · exact h.elim
      · exact h.elim
    · exact h.elim
  case index t x i =>
    split at h
    · rename_i b _ j hu e1 e2
      obtain ⟨h0, c, h1, h⟩ := h
      refine ⟨_, _, ?_, h⟩
      simp only [eff, hu, e1, e2, h1]
      rw [if_pos h0]
    · exact h.elim
  case extract x i =>
    split at h
    · rename_i l e
      split at h
      · rename_i b cs e2
        exact ⟨_, _, by simp [eff, e, e2], h⟩
      · exact h.elim
    · exact h.elim
  case call c =>
    split at h
    · rename_i b hb
      split at h
      · rename_i ts tx s x e1 e2
        obtain ⟨r, l, h1, h2⟩ := appendW_ok h
        exact ⟨r, l, by simp only [eff, hb, e1, e2, callT]; exact h1, h2⟩
      · rename_i t x e1 e2
        obtain ⟨n, h1, h2⟩ := lenW_ok h
        exact ⟨_, _, by simp only [eff, hb, e1, e2, callT, h1]; rfl, h2⟩
      · rename_i k a _ b e2
        obtain ⟨c, rfl, h2⟩ := h
        exact ⟨_, _, by simp only [eff, hb, e2, callT], h2⟩
      · rename_i k a _ b e2
        obtain ⟨c, rfl, h2⟩ := h
        exact ⟨_, _, by simp only [eff, hb, e2, callT], h2⟩
      · exact h.elim
    · exact h.elim

end Go.Proofs.Ytacfohamlkbpjaa
