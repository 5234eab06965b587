/- Functions of the program, each with what it gives back. -/
import Derived.Test.YtopnaijeicknoaaGreatDoorKe
import Derived.Test.YtopnaijeicknoaaGreatDoorChecked
import Derived.IntWalk
import Derived.Test.YtopnaijeicknoaaGreatDoorM6
import Derived.Test.YtopnaijeicknoaaGreatDoorM8
namespace Go.Proofs.YtopnaijeicknoaaGreatDoor
open Go Go.RowKit Go.IntWalk
open Enc (sz cs)
attribute [local irreducible] IntKind.wrap

/-! ### An operation, as the document has it -/
attribute [local irreducible] pkR ppN bOf fbN cdN rpN atN tkN moS moI clN2 lkK seS ofT ofN acT nrN isN thN kyD
theorem mixL {A C : List Cell} {c : Cell} {k : Nat} (h : A.length = k) : cut (A ++ [c] ++ C) (k * 1 + 0) 1 = some [c] := by
  rw [Nat.mul_one]
  exact cutA h.symm
theorem mixP {A C : List Cell} {c c' : Cell} {k : Nat} (h : A.length = k) : put (A ++ [c] ++ C) (k * 1 + 0) [c'] = some (A ++ [c'] ++ C) := by
  rw [Nat.mul_one]
  exact put_mid h.symm (put_all rfl)
theorem csA_len {m : Tbs} {k : Nat} (h : k < m.length) : (cs true (m.take k)).length = k := by
  rw [cs_len, List.length_take]; show min k m.length * 1 = k; omega
theorem tabSplit {m : Tbs} {k : Nat} (h : k < m.length) : cs true m = cs true (m.take k) ++ [slE true m[k]] ++ cs true (m.drop (k + 1)) := cs_split h
theorem cs_td {t : List (List Vl)} {j : Nat} : cs false (t.take j) ++ cs false (t.drop (j + 1)) = cs false (t.take j ++ t.drop (j + 1)) := (Enc.app ..).symm

set_option maxHeartbeats 2000000 in
set_option maxRecDepth 100000 in
theorem tx15 {s : List Df} {m : Tbs} {kd t : Int} {row : List Vl} (hs : zSc s ≤ 2000000 := by first | assumption | omega | (simp; done) | (simp; omega)) (hm : zMdb m + zRow row ≤ 1900000 := by first | assumption | omega | (simp; done) | (simp; omega)) : T 15 [aE s, .val true [slE false m], .val true [i6 kd, i6 t, slE false row]] [(true, [slE false (apN s m ⟨kd, t, row⟩).1]), vI (apN s m ⟨kd, t, row⟩).2] [none, none, none] := by
  refine w_call md [[1], []] Tryz.func15 rfl ?_
  have hm2 : zMdb m ≤ 2000000 := by omega
  obtain ⟨q1, q2⟩ := zSc_b hs
  obtain ⟨z1, z2⟩ := zMdb_b hm2
  have hr : RvB row := RvB.of (by omega)
  have hrl := hr.1
  cases hmo : moS s m with
  | false =>
    rw [apN_1 (fun q => bft hmo q.1)]
    have hM : T 8 [aE s, .val true [slE false m]] [vB false] [none, none] := by
      have h := tx8 (s := s) (m := m)
      rwa [hmo] at h
    repeat' ((conv => whnf); (first | (apply cx8; refine kl (hM) ?_) | (apply cx40; refine kl (tx40 (m := m)) ?_) | refine bstep (w_frz 6 (m)) ?_ | refine ⟨snc, cs false m, cs_whole, ?_⟩ | refine k0 ?_ | refine jA fun _ => ?_ | refine jB fun _ => ?_ | refine kC (fun _ => ?_) fun _ => ?_ | (apply cx40; refine kl tx40 ?_) | (apply cx8; refine kl tx8 ?_) | (apply cx41; refine kl tx41 ?_) | (apply cx43; refine kl tx43 ?_) | (apply cx42; refine kl tx42 ?_) | (apply cx44; refine kl tx44 ?_) | (apply cx45; refine kl tx45 ?_) | (apply cx46; refine kl tx46 ?_) | refine jst ?_ | exact ⟨rfl, rfl⟩ | exact jV | fail))
  | true =>
    have hM : T 8 [aE s, .val true [slE false m]] [vB true] [none, none] := by
      have h := tx8 (s := s) (m := m)
      rwa [hmo] at h
    have hf := mo_fb hmo
    have hml := mo_len hmo
    have hI := tx41 (s := s) (kd := kd) (t := t) (row := row)
    cases hkd : inB kd 1 4 with
    | false =>
      rw [apN_1 (o := ⟨kd, t, row⟩) (fun q => bft hkd q.2)]
      simp only [hkd, Bool.false_eq_true, if_false] at hI
      repeat' ((conv => whnf); (first | (apply cx8; refine kl (hM) ?_) | (apply cx40; refine kl (tx40 (m := m)) ?_) | (apply cx41; refine kl (hI) ?_) | refine bstep (w_frz 6 (m)) ?_ | refine ⟨snc, cs false m, cs_whole, ?_⟩ | refine k0 ?_ | refine jA fun _ => ?_ | refine jB fun _ => ?_ | refine kC (fun _ => ?_) fun _ => ?_ | (apply cx40; refine kl tx40 ?_) | (apply cx8; refine kl tx8 ?_) | (apply cx41; refine kl tx41 ?_) | (apply cx43; refine kl tx43 ?_) | (apply cx42; refine kl tx42 ?_) | (apply cx44; refine kl tx44 ?_) | (apply cx45; refine kl tx45 ?_) | (apply cx46; refine kl tx46 ?_) | refine jst ?_ | exact ⟨rfl, rfl⟩ | exact jV | fail))
    | true =>
      simp only [hkd, if_true] at hI
      by_cases ht : inB t 0 ((s.length : Int) - 1) = true
      · have hb := inB_iff.1 ht
        obtain ⟨k, rfl⟩ : ∃ k : Nat, t = k := ⟨t.toNat, by omega⟩
        have h2 : k < s.length := by omega
        have h3 : k < m.length := by omega
        have hd := q2 k h2
        have hcd := cd_fb hf h2
        have hrw := mo_rw hmo h2 h3
        have hpl := ppN_len (d := s[k])
        have hmk := z2 k h3
        obtain ⟨z3, z4⟩ := z2 k h3
        rw [ofN_y h2] at hI
        by_cases c1 : ofT s[k] k ⟨kd, k, row⟩ = 0
        · rw [c1] at hI
          have hK := tx43 (s := s) (kd := kd) (k := k) (row := row)
          obtain ⟨key, hkey⟩ : ∃ key, kyD s[k] ⟨kd, k, row⟩ = key := ⟨_, rfl⟩
          have hkl : key.length ≤ 2000000 := by
            by_cases h4 : kd = 4
            · rw [← hkey, kyD_4 (o := ⟨kd, k, row⟩) h4]; exact hrl
            · rw [← hkey, kyD_n (o := ⟨kd, k, row⟩) h4, pkR_len]; omega
          rw [hkey] at hK
          have hA := tx42 (d := s[k]) (rows := m[k]) (key := key)
          obtain ⟨a, ha⟩ : ∃ a, atN (ppN s[k]) m[k] key = a := ⟨_, rfl⟩
          rw [ha] at hA
          have hkc : ∀ b, T 44 [.val true [i6 kd, i6 k, slE false row], aB b] [vI (thN ⟨kd, k, row⟩ b)] [none, none] := fun b => tx44 (t := k) (row := row)
          have hT : T 45 [.val true (dfC false s[k]), aE m[k], aE row] [vB (tkN s[k] m[k] row)] [none, none, none] := tx45 hcd
          by_cases hn : 0 ≤ a
          · skip
            have his := isN_y (d := s[k]) (rows := m[k]) (o := ⟨kd, k, row⟩) (by rw [hkey]; exact ha) hn
            have hC := hkc true
            by_cases c2 : thN ⟨kd, k, row⟩ true = 0
            · rw [c2] at hC
              have c3 : thN ⟨kd, k, row⟩ (isN s[k] m[k] ⟨kd, k, row⟩) = 0 := by rw [his]; exact c2
              by_cases h4 : kd = 4
              · subst h4
                have hky : row = key := by rw [← hkey, kyD_4 rfl]
                subst hky
                have hac : acT s[k] k m[k] ⟨4, k, row⟩ = 0 := acT_0 c1 c3 (.inl rfl)
                obtain ⟨j, hj⟩ : ∃ j : Nat, a = j := ⟨a.toNat, by omega⟩
                subst hj
                obtain ⟨hj2, _⟩ := atN_mem ha
                have hnr := nrN_4 (d := s[k]) (rows := m[k]) (o := ⟨4, k, row⟩) rfl ha
                have hjt : (m[k].take j).length = j := by rw [List.length_take]; omega
                have hjd : (m[k].drop (j + 1)).length = m[k].length - (j + 1) := List.length_drop
                rw [apN_y ⟨hmo, hkd⟩ h2 h3 hac, hnr]
                repeat' ((conv => whnf); (first | (apply cx8; refine kl (hM) ?_) | (apply cx40; refine kl (tx40 (m := m)) ?_) | (apply cx41; refine kl (hI) ?_) | (apply cx43; refine kl (hK) ?_) | (apply cx42; refine kl (hA) ?_) | (apply cx44; refine kl (hC) ?_) | refine And.intro ⟨by omega, by omega⟩ (Exists.intro _ (And.intro (rdI (i := k) (by omega) (by omega)) ?_)) | refine Exists.intro _ (Exists.intro _ (Exists.intro _ (And.intro rfl (And.intro bndN (And.intro (sl_to (by omega)) ?_))))) | refine Exists.intro _ (Exists.intro _ (Exists.intro _ (And.intro bndN (And.intro rfl (And.intro (sl_from (by omega)) ?_))))) | refine Exists.intro ((j + 1 : Nat) : Int) (And.intro ((i64_in _ (by omega)).trans (by omega)) ?_) | refine Exists.intro _ (Exists.intro (cs false (m[k].take j)) (And.intro rfl (And.intro ⟨Nat.le_refl _, bgb (by omega), bg (by omega)⟩ (Exists.intro _ (And.intro ape (Exists.intro _ (And.intro (Nat.zero_add _) ?_))))))) | refine jap (N := cs false (m[k].drop (j + 1))) (apE (o := false) (xs := m[k].take j) (ys := m[k].drop (j + 1)) ?_) | refine bstep (w_outE 6 (cs true (m.take k)) m[k] (cs true (m.drop (k + 1))) 1 (h1 := tabSplit h3)) ?_ | refine bstep (w_inF true 6 8 (cs true (m.take k)) m[k] (cs true (m.drop (k + 1))) m[k].length 1 rfl) ?_ | refine ko (mixL (csA_len h3)) ?_ | refine ko (mixP (csA_len h3)) ?_ | refine bstep (w_inF false 6 410 (cs true (m.take k)) (m[k].take j ++ m[k].drop (j + 1)) (cs true (m.drop (k + 1))) (m[k].take j ++ m[k].drop (j + 1)).length 1 rfl) ?_ | refine bstep (w_freeze 6 rfl (csTab (y := m[k].take j ++ m[k].drop (j + 1)) h3)) ?_ | refine ⟨snc, cs false (m.set k (m[k].take j ++ m[k].drop (j + 1))), cs_wset, ?_⟩ | refine k0 ?_ | refine jA fun _ => ?_ | refine jB fun _ => ?_ | refine kC (fun _ => ?_) fun _ => ?_ | (apply cx40; refine kl tx40 ?_) | (apply cx8; refine kl tx8 ?_) | (apply cx41; refine kl tx41 ?_) | (apply cx43; refine kl tx43 ?_) | (apply cx42; refine kl tx42 ?_) | (apply cx44; refine kl tx44 ?_) | (apply cx45; refine kl tx45 ?_) | (apply cx46; refine kl tx46 ?_) | refine jst ?_ | exact ⟨rfl, rfl⟩ | exact jV | fail))
                exact ⟨congrArg (fun c => [(true, [c]), vI 0]) sl_set, rfl⟩
              · cases htk : tkN s[k] m[k] row
                · rw [htk] at hT
                  have hac : acT s[k] k m[k] ⟨kd, k, row⟩ = 0 := acT_0 c1 c3 (.inr htk)
                  have hnr := nrN_n (d := s[k]) (rows := m[k]) (o := ⟨kd, k, row⟩) h4
                  rw [apN_y ⟨hmo, hkd⟩ h2 h3 hac, hnr]
                  repeat' ((conv => whnf); (first | (apply cx8; refine kl (hM) ?_) | (apply cx40; refine kl (tx40 (m := m)) ?_) | (apply cx41; refine kl (hI) ?_) | (apply cx43; refine kl (hK) ?_) | (apply cx42; refine kl (hA) ?_) | (apply cx44; refine kl (hC) ?_) | refine And.intro ⟨by omega, by omega⟩ (Exists.intro _ (And.intro (rdI (i := k) (by omega) (by omega)) ?_)) | (apply cx45; refine kl (hT) ?_) | (apply cx46; refine kl (tx46 (d := s[k]) (rows := m[k]) (row := row)) ?_) | refine ko (ptTab h3) ?_ | refine bstep (w_inF true 6 137 (cs true (m.take k)) (seS (ppN s[k]) m[k] row) (cs true (m.drop (k + 1))) (seS (ppN s[k]) m[k] row).length 1 rfl) ?_ | refine bstep (w_freeze 6 rfl (csTab (y := seS (ppN s[k]) m[k] row) h3)) ?_ | refine ⟨snc, cs false (m.set k (seS (ppN s[k]) m[k] row)), cs_wset, ?_⟩ | refine k0 ?_ | refine jA fun _ => ?_ | refine jB fun _ => ?_ | refine kC (fun _ => ?_) fun _ => ?_ | (apply cx40; refine kl tx40 ?_) | (apply cx8; refine kl tx8 ?_) | (apply cx41; refine kl tx41 ?_) | (apply cx43; refine kl tx43 ?_) | (apply cx42; refine kl tx42 ?_) | (apply cx44; refine kl tx44 ?_) | (apply cx45; refine kl tx45 ?_) | (apply cx46; refine kl tx46 ?_) | refine jst ?_ | exact ⟨rfl, rfl⟩ | exact jV | fail))
                  exact ⟨congrArg (fun c => [(true, [c]), vI 0]) sl_set, rfl⟩
                · rw [htk] at hT
                  have h5 := acT_5 (o := ⟨kd, k, row⟩) c1 c3 h4 htk
                  rw [apN_e ⟨hmo, hkd⟩ h2 h3 (by rw [h5]; decide), h5]
                  repeat' ((conv => whnf); (first | (apply cx8; refine kl (hM) ?_) | (apply cx40; refine kl (tx40 (m := m)) ?_) | (apply cx41; refine kl (hI) ?_) | (apply cx43; refine kl (hK) ?_) | (apply cx42; refine kl (hA) ?_) | (apply cx44; refine kl (hC) ?_) | refine And.intro ⟨by omega, by omega⟩ (Exists.intro _ (And.intro (rdI (i := k) (by omega) (by omega)) ?_)) | (apply cx45; refine kl (hT) ?_) | refine bstep (w_frz 6 (m)) ?_ | refine ⟨snc, cs false m, cs_whole, ?_⟩ | refine k0 ?_ | refine jA fun _ => ?_ | refine jB fun _ => ?_ | refine kC (fun _ => ?_) fun _ => ?_ | (apply cx40; refine kl tx40 ?_) | (apply cx8; refine kl tx8 ?_) | (apply cx41; refine kl tx41 ?_) | (apply cx43; refine kl tx43 ?_) | (apply cx42; refine kl tx42 ?_) | (apply cx44; refine kl tx44 ?_) | (apply cx45; refine kl tx45 ?_) | (apply cx46; refine kl tx46 ?_) | refine jst ?_ | exact ⟨rfl, rfl⟩ | exact jV | fail))
            · rw [apN_e ⟨hmo, hkd⟩ h2 h3 (by rw [acT_t c1 (by rw [his]; exact c2), his]; exact c2), acT_t c1 (by rw [his]; exact c2), his]
              generalize thN ⟨kd, k, row⟩ true = c at *
              repeat' ((conv => whnf); (first | (apply cx8; refine kl (hM) ?_) | (apply cx40; refine kl (tx40 (m := m)) ?_) | (apply cx41; refine kl (hI) ?_) | (apply cx43; refine kl (hK) ?_) | (apply cx42; refine kl (hA) ?_) | (apply cx44; refine kl (hC) ?_) | refine And.intro ⟨by omega, by omega⟩ (Exists.intro _ (And.intro (rdI (i := k) (by omega) (by omega)) ?_)) | refine bstep (w_frz 6 (m)) ?_ | refine ⟨snc, cs false m, cs_whole, ?_⟩ | refine k0 ?_ | refine jA fun _ => ?_ | refine jB fun _ => ?_ | refine kC (fun _ => ?_) fun _ => ?_ | (apply cx40; refine kl tx40 ?_) | (apply cx8; refine kl tx8 ?_) | (apply cx41; refine kl tx41 ?_) | (apply cx43; refine kl tx43 ?_) | (apply cx42; refine kl tx42 ?_) | (apply cx44; refine kl tx44 ?_) | (apply cx45; refine kl tx45 ?_) | (apply cx46; refine kl tx46 ?_) | refine jst ?_ | exact ⟨rfl, rfl⟩ | exact jV | fail))
          · skip
            have his := isN_n (d := s[k]) (rows := m[k]) (o := ⟨kd, k, row⟩) (by rw [hkey]; exact ha) hn
            have hC := hkc false
            by_cases c2 : thN ⟨kd, k, row⟩ false = 0
            · rw [c2] at hC
              have c3 : thN ⟨kd, k, row⟩ (isN s[k] m[k] ⟨kd, k, row⟩) = 0 := by rw [his]; exact c2
              by_cases h4 : kd = 4
              · subst h4; rw [th_4] at c2; exact absurd c2 (by decide)
              · cases htk : tkN s[k] m[k] row
                · rw [htk] at hT
                  have hac : acT s[k] k m[k] ⟨kd, k, row⟩ = 0 := acT_0 c1 c3 (.inr htk)
                  have hnr := nrN_n (d := s[k]) (rows := m[k]) (o := ⟨kd, k, row⟩) h4
                  rw [apN_y ⟨hmo, hkd⟩ h2 h3 hac, hnr]
                  repeat' ((conv => whnf); (first | (apply cx8; refine kl (hM) ?_) | (apply cx40; refine kl (tx40 (m := m)) ?_) | (apply cx41; refine kl (hI) ?_) | (apply cx43; refine kl (hK) ?_) | (apply cx42; refine kl (hA) ?_) | (apply cx44; refine kl (hC) ?_) | refine And.intro ⟨by omega, by omega⟩ (Exists.intro _ (And.intro (rdI (i := k) (by omega) (by omega)) ?_)) | (apply cx45; refine kl (hT) ?_) | (apply cx46; refine kl (tx46 (d := s[k]) (rows := m[k]) (row := row)) ?_) | refine ko (ptTab h3) ?_ | refine bstep (w_inF true 6 137 (cs true (m.take k)) (seS (ppN s[k]) m[k] row) (cs true (m.drop (k + 1))) (seS (ppN s[k]) m[k] row).length 1 rfl) ?_ | refine bstep (w_freeze 6 rfl (csTab (y := seS (ppN s[k]) m[k] row) h3)) ?_ | refine ⟨snc, cs false (m.set k (seS (ppN s[k]) m[k] row)), cs_wset, ?_⟩ | refine k0 ?_ | refine jA fun _ => ?_ | refine jB fun _ => ?_ | refine kC (fun _ => ?_) fun _ => ?_ | (apply cx40; refine kl tx40 ?_) | (apply cx8; refine kl tx8 ?_) | (apply cx41; refine kl tx41 ?_) | (apply cx43; refine kl tx43 ?_) | (apply cx42; refine kl tx42 ?_) | (apply cx44; refine kl tx44 ?_) | (apply cx45; refine kl tx45 ?_) | (apply cx46; refine kl tx46 ?_) | refine jst ?_ | exact ⟨rfl, rfl⟩ | exact jV | fail))
                  exact ⟨congrArg (fun c => [(true, [c]), vI 0]) sl_set, rfl⟩
                · rw [htk] at hT
                  have h5 := acT_5 (o := ⟨kd, k, row⟩) c1 c3 h4 htk
                  rw [apN_e ⟨hmo, hkd⟩ h2 h3 (by rw [h5]; decide), h5]
                  repeat' ((conv => whnf); (first | (apply cx8; refine kl (hM) ?_) | (apply cx40; refine kl (tx40 (m := m)) ?_) | (apply cx41; refine kl (hI) ?_) | (apply cx43; refine kl (hK) ?_) | (apply cx42; refine kl (hA) ?_) | (apply cx44; refine kl (hC) ?_) | refine And.intro ⟨by omega, by omega⟩ (Exists.intro _ (And.intro (rdI (i := k) (by omega) (by omega)) ?_)) | (apply cx45; refine kl (hT) ?_) | refine bstep (w_frz 6 (m)) ?_ | refine ⟨snc, cs false m, cs_whole, ?_⟩ | refine k0 ?_ | refine jA fun _ => ?_ | refine jB fun _ => ?_ | refine kC (fun _ => ?_) fun _ => ?_ | (apply cx40; refine kl tx40 ?_) | (apply cx8; refine kl tx8 ?_) | (apply cx41; refine kl tx41 ?_) | (apply cx43; refine kl tx43 ?_) | (apply cx42; refine kl tx42 ?_) | (apply cx44; refine kl tx44 ?_) | (apply cx45; refine kl tx45 ?_) | (apply cx46; refine kl tx46 ?_) | refine jst ?_ | exact ⟨rfl, rfl⟩ | exact jV | fail))
            · rw [apN_e ⟨hmo, hkd⟩ h2 h3 (by rw [acT_t c1 (by rw [his]; exact c2), his]; exact c2), acT_t c1 (by rw [his]; exact c2), his]
              generalize thN ⟨kd, k, row⟩ false = c at *
              repeat' ((conv => whnf); (first | (apply cx8; refine kl (hM) ?_) | (apply cx40; refine kl (tx40 (m := m)) ?_) | (apply cx41; refine kl (hI) ?_) | (apply cx43; refine kl (hK) ?_) | (apply cx42; refine kl (hA) ?_) | (apply cx44; refine kl (hC) ?_) | refine And.intro ⟨by omega, by omega⟩ (Exists.intro _ (And.intro (rdI (i := k) (by omega) (by omega)) ?_)) | refine bstep (w_frz 6 (m)) ?_ | refine ⟨snc, cs false m, cs_whole, ?_⟩ | refine k0 ?_ | refine jA fun _ => ?_ | refine jB fun _ => ?_ | refine kC (fun _ => ?_) fun _ => ?_ | (apply cx40; refine kl tx40 ?_) | (apply cx8; refine kl tx8 ?_) | (apply cx41; refine kl tx41 ?_) | (apply cx43; refine kl tx43 ?_) | (apply cx42; refine kl tx42 ?_) | (apply cx44; refine kl tx44 ?_) | (apply cx45; refine kl tx45 ?_) | (apply cx46; refine kl tx46 ?_) | refine jst ?_ | exact ⟨rfl, rfl⟩ | exact jV | fail))
        · rw [apN_e ⟨hmo, hkd⟩ h2 h3 (by rw [acT_f c1]; exact c1), acT_f c1]
          generalize ofT s[k] k ⟨kd, k, row⟩ = c at *
          repeat' ((conv => whnf); (first | (apply cx8; refine kl (hM) ?_) | (apply cx40; refine kl (tx40 (m := m)) ?_) | (apply cx41; refine kl (hI) ?_) | refine bstep (w_frz 6 (m)) ?_ | refine ⟨snc, cs false m, cs_whole, ?_⟩ | refine k0 ?_ | refine jA fun _ => ?_ | refine jB fun _ => ?_ | refine kC (fun _ => ?_) fun _ => ?_ | (apply cx40; refine kl tx40 ?_) | (apply cx8; refine kl tx8 ?_) | (apply cx41; refine kl tx41 ?_) | (apply cx43; refine kl tx43 ?_) | (apply cx42; refine kl tx42 ?_) | (apply cx44; refine kl tx44 ?_) | (apply cx45; refine kl tx45 ?_) | (apply cx46; refine kl tx46 ?_) | refine jst ?_ | exact ⟨rfl, rfl⟩ | exact jV | fail))
      · have hnn : ¬ (0 ≤ t ∧ t.toNat < s.length) := fun q => ht (inB_iff.2 (by omega))
        rw [ofN_n (o := ⟨kd, t, row⟩) hnn] at hI
        rw [apN_2 (o := ⟨kd, t, row⟩) ⟨hmo, hkd⟩ (fun q => hnn ⟨q.1, q.2.1⟩)]
        repeat' ((conv => whnf); (first | (apply cx8; refine kl (hM) ?_) | (apply cx40; refine kl (tx40 (m := m)) ?_) | (apply cx41; refine kl (hI) ?_) | refine bstep (w_frz 6 (m)) ?_ | refine ⟨snc, cs false m, cs_whole, ?_⟩ | refine k0 ?_ | refine jA fun _ => ?_ | refine jB fun _ => ?_ | refine kC (fun _ => ?_) fun _ => ?_ | (apply cx40; refine kl tx40 ?_) | (apply cx8; refine kl tx8 ?_) | (apply cx41; refine kl tx41 ?_) | (apply cx43; refine kl tx43 ?_) | (apply cx42; refine kl tx42 ?_) | (apply cx44; refine kl tx44 ?_) | (apply cx45; refine kl tx45 ?_) | (apply cx46; refine kl tx46 ?_) | refine jst ?_ | exact ⟨rfl, rfl⟩ | exact jV | fail))

theorem cx15 {P : Program} {X : FuncId → List Arg → List (Bool × List Cell) → List (Option (List Cell)) → Prop} {a : List Arg} {Q : List (Bool × List Cell) → List (Option (List Cell)) → Prop} (h : ∃ b vals outs, a = b ∧ D P X (.call 15 b vals outs) ∧ Q vals outs) : CallS P X 15 a Q := ⟨h⟩

end Go.Proofs.YtopnaijeicknoaaGreatDoor
