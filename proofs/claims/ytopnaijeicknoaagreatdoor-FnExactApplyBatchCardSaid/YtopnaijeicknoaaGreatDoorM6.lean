/- Functions of the program, each with what it gives back. -/
import Derived.Test.YtopnaijeicknoaaGreatDoorKe
import Derived.Test.YtopnaijeicknoaaGreatDoorChecked
import Derived.IntWalk
import Derived.Test.YtopnaijeicknoaaGreatDoorM5
namespace Go.Proofs.YtopnaijeicknoaaGreatDoor
open Go Go.RowKit Go.IntWalk
open Enc (sz cs)
attribute [local irreducible] IntKind.wrap

/-! ### An operation on right tables -/
attribute [local irreducible] pkR ppN bOf fbN cdN rpN atN tkN moS moI ofT ofN clN2 lkK acT nrN sgI
theorem cs_snF {out : List (List Vl)} {r : List Vl} : cs false out ++ [slE false r] ++ [] = cs false (out ++ [r]) := by
  rw [List.append_nil, Enc.app]; rfl
theorem acT_0 {d : Df} {k : Nat} {rows : List (List Vl)} {o : Opn} (h : ofT d k o = 0) (h2 : thN o (isN d rows o) = 0) (h3 : o.kind = 4 ∨ tkN d rows o.row = false) : acT d k rows o = 0 := by
  unfold acT
  rw [if_pos h, if_pos h2]
  rcases h3 with h3 | h3
  · rw [if_pos h3]
  · split
    · rfl
    · rw [if_neg (by rw [h3]; decide)]
theorem acT_5 {d : Df} {k : Nat} {rows : List (List Vl)} {o : Opn} (h : ofT d k o = 0) (h2 : thN o (isN d rows o) = 0) (h4 : ¬ o.kind = 4) (h3 : tkN d rows o.row = true) : acT d k rows o = 5 := by
  unfold acT
  rw [if_pos h, if_pos h2, if_neg h4, if_pos h3]
theorem acT_t {d : Df} {k : Nat} {rows : List (List Vl)} {o : Opn} (h : ofT d k o = 0) (h2 : ¬ thN o (isN d rows o) = 0) : acT d k rows o = thN o (isN d rows o) := by
  unfold acT
  rw [if_pos h, if_neg h2]
theorem acT_f {d : Df} {k : Nat} {rows : List (List Vl)} {o : Opn} (h : ¬ ofT d k o = 0) : acT d k rows o = ofT d k o := by
  unfold acT
  rw [if_neg h]
theorem isN_y {d : Df} {rows : List (List Vl)} {o : Opn} {a : Int} (ha : atN (ppN d) rows (kyD d o) = a) (h : 0 ≤ a) : isN d rows o = true := by
  unfold isN; rw [ha]; exact decide_eq_true h
theorem isN_n {d : Df} {rows : List (List Vl)} {o : Opn} {a : Int} (ha : atN (ppN d) rows (kyD d o) = a) (h : ¬ 0 ≤ a) : isN d rows o = false := by
  unfold isN; rw [ha]; exact decide_eq_false h
theorem sgT_all {l : List Prt} {key row : List Vl} {b : Bool} {rows : List (List Vl)} {x : List (List Vl) × Bool} (h : sgT l key row b rows rows.length = x) : rows.foldl (sgI l key row) ([], b) = x := by
  unfold sgT at h
  rwa [List.take_length] at h
theorem nr_n {d : Df} {k : Nat} {rows : List (List Vl)} {kd : Int} {t : Int} {row : List Vl} {out : List (List Vl)} {put : Bool} (h4 : ¬ kd = 4) (hrw : ∀ j (hj : j < rows.length), RwI d k rows j hj) (h : sgT (ppN d) (pkR (ppN d) row) row false rows rows.length = (out, put)) : nrN d rows ⟨kd, t, row⟩ = fnS row (out, put) := by
  rw [nrN_n (o := ⟨kd, t, row⟩) h4, ← seIS (tb_srt hrw), ← sgT_all h]
  rfl
theorem nr_4 {d : Df} {k : Nat} {rows : List (List Vl)} {t : Int} {row : List Vl} {out : List (List Vl)} {put : Bool} {j : Nat} (hrw : ∀ j (hj : j < rows.length), RwI d k rows j hj) (ha : atN (ppN d) rows row = j) (h : sgT (ppN d) row row true rows rows.length = (out, put)) : nrN d rows ⟨4, t, row⟩ = out := by
  obtain ⟨hj, e⟩ := atN_mem ha
  have h2 := sgT_all h
  rw [sgI_del hj e (fun i hi q => key_inj hrw hi hj (q.trans e.symm))] at h2
  rw [nrN_4 (o := ⟨4, t, row⟩) rfl ha]
  exact congrArg Prod.fst h2
theorem th_4 {t : Int} {row : List Vl} : thN ⟨4, t, row⟩ false = 6 := by
  unfold thN
  rw [if_neg (by simp), if_pos (by simp)]
theorem sgI_z {l : List Prt} {key row r : List Vl} {out : List (List Vl)} (h : ¬ pkR l r = key) (h2 : lkK l key (pkR l r) = true) : sgI l key row (out, false) r = (out ++ [row] ++ [r], true) := by
  rw [sgI_y h h2]; simp
theorem sl_set {m : Tbs} {k : Nat} {y : List (List Vl)} : Cell.sl false (List.length m) 1 (cs false (m.set k y)) = slE false (m.set k y) := by
  show _ = Cell.sl false (m.set k y).length 1 _
  rw [List.length_set]
theorem cs_wset {m : Tbs} {k : Nat} {y : List (List Vl)} : ((cs false (m.set k y)).drop 0).take (m.length * 1) = cs false (m.set k y) := by
  have h := cs_whole (o := false) (xs := m.set k y)
  rwa [List.length_set] at h
theorem z_one {t : List (List Vl)} : zMdb [t] = 1 + zTab t := rfl
theorem z_tab {m : Tbs} {k : Nat} (h : k < m.length) : zTab m[k] ≤ zMdb m := by
  have h3 := cnt_mem (c := zTab) (List.getElem_mem h)
  have h0 : zMdb m = m.length + cnt zTab m := rfl
  omega
attribute [local irreducible] isN thN kyD

set_option maxHeartbeats 2000000 in
set_option maxRecDepth 100000 in
theorem t_impl_copyMdbG {m : Tbs} (hm : zMdb m ≤ 2000000 := by first | assumption | omega | (simp; done) | (simp; omega)) : T 49 [.val true [.ref 1 0 m.length 1], .ex (cs false m)] [(true, [slE false m])] [none, some (cs false m)] := by
  refine w_call md [[1]] Tryz.func49 rfl ?_
  obtain ⟨z1, z2⟩ := zMdb_b hm
  repeat' ((conv => whnf); (first | refine k0 ?_ | refine jA fun _ => ?_ | refine jB fun _ => ?_ | refine kC (fun _ => ?_) fun _ => ?_ | (apply cx92; refine kl tx92 ?_) | refine jst ?_ | exact ⟨rfl, rfl⟩ | exact jV | fail))
  conv => whnf
  refine loopk (ι := Nat) (fun i => i ≤ m.length) (fun i => m.length - i) (0) [2, 3, 11] (fun i => [(1, .v false [.ptr 2 0]), (10, .v false [.ref 1 0 m.length 1]), (12, .v false [i6 i])]) [none, some fun _ => some (true, cs false m), some fun _ => some (true, [.ref 1 0 m.length 1]), none, some fun i => some (true, [.ref 5 0 i 1]), some fun i => nE (m.take i)] ?_
  refine ⟨by omega, ?_, fun u hi => ?_⟩
  · exact (w_nilN 4 1 [] []).trans (jw [2, 4])
  · repeat' ((conv => whnf); (first | refine k0 ?_ | (apply cx92; refine kl tx92 ?_) | refine jst ?_ | exact ⟨rfl, rfl⟩ | exact jV | fail))
    conv => whnf
    refine ⟨fun hlt => ?_, fun hge => ?_⟩
    · have hi2 : u < m.length := by omega
      obtain ⟨z3, z4⟩ := z2 u hi2
      repeat' ((conv => whnf); (first | refine k0 ?_ | refine jA fun _ => ?_ | refine jB fun _ => ?_ | refine kC (fun _ => ?_) fun _ => ?_ | (apply cx92; refine kl tx92 ?_) | refine jst ?_ | exact ⟨rfl, rfl⟩ | exact jV | fail))
      conv => whnf
      refine loopk (ι := Nat) (fun i => i ≤ m[u].length) (fun i => m[u].length - i) (0) [2, 3, 6, 11, 12, 17, 18] (fun i => [(1, .v false [.ptr 2 0]), (10, .v false [.ref 1 0 m.length 1]), (19, .v false [i6 i])]) [none, some fun _ => some (true, cs false m), some fun _ => some (true, [.ref 1 0 m.length 1]), none, some fun _ => some (true, [.ref 5 0 u 1]), some fun _ => nE (m.take u), none, some fun i => some (true, [.ref 8 0 i 1]), some fun i => nE (m[u].take i)] ?_
      refine ⟨by omega, ?_, fun i hi => ?_⟩
      · exact (w_nilN 7 1 [] []).trans (jw [2, 4, 7])
      · repeat' ((conv => whnf); (first | refine k0 ?_ | (apply cx92; refine kl tx92 ?_) | refine jst ?_ | exact ⟨rfl, rfl⟩ | exact jV | fail))
        conv => whnf
        refine ⟨fun hlt2 => ?_, fun hge2 => ?_⟩
        · have hi3 : i < m[u].length := by omega
          have hz := z4 i hi3
          repeat' ((conv => whnf); (first | (apply cx92; refine kl (tx92 (r := m[u][i])) ?_) | refine Exists.intro _ (Exists.intro _ (And.intro rfl (And.intro ⟨by simp <;> omega, bgb (by omega), bg (by omega)⟩ (apR (xs := m[u].take i) ?_)))) | refine k0 ?_ | refine jA fun _ => ?_ | refine jB fun _ => ?_ | refine kC (fun _ => ?_) fun _ => ?_ | (apply cx92; refine kl tx92 ?_) | refine jst ?_ | exact ⟨rfl, rfl⟩ | exact jV | fail))
          refine ⟨⟨i + 1, by omega⟩, by simp only; omega, (w_inE 89 57 (cs true (m[u].take i)) m[u][i] [] m[u][i].length 3 (tk1 hi3 rfl)).trans ?_⟩
          exact jw [2, 4, 7]
        · obtain rfl : i = m[u].length := by omega
          repeat' ((conv => whnf); (first | refine Exists.intro _ (Exists.intro _ (And.intro rfl (And.intro ⟨by simp <;> omega, bgb (by omega), bg (by omega)⟩ (apR (xs := m.take u) ?_)))) | refine k0 ?_ | refine jA fun _ => ?_ | refine jB fun _ => ?_ | refine kC (fun _ => ?_) fun _ => ?_ | (apply cx92; refine kl tx92 ?_) | refine jst ?_ | exact ⟨rfl, rfl⟩ | exact jV | fail))
          refine ⟨⟨u + 1, by omega⟩, by simp only; omega, (w_inE 10 8 (cs true (m.take u)) (m[u].take m[u].length) [] m[u].length 1 (cs1 := cs true (m.take (u + 1))) (by rw [List.take_length]; exact tk1 hi2 rfl)).trans ?_⟩
          exact jw [2, 4]
    · obtain rfl : u = m.length := by omega
      repeat' ((conv => whnf); (first | refine bstep (w_frz 5 (m.take m.length)) ?_ | refine ⟨snc, cs false m, (by rw [List.take_length]; exact cs_whole), ?_⟩ | refine k0 ?_ | refine jA fun _ => ?_ | refine jB fun _ => ?_ | refine kC (fun _ => ?_) fun _ => ?_ | (apply cx92; refine kl tx92 ?_) | refine jst ?_ | exact ⟨rfl, rfl⟩ | exact jV | fail))

def md2 : FuncId → List Mode
  | 49 => [.str]
  | f => md f

set_option maxHeartbeats 2000000 in
set_option maxRecDepth 100000 in
theorem tx50 {s : List Df} {m : Tbs} {kd t : Int} {row : List Vl} (hmo : moS s m = true := by first | assumption | omega | (simp; done) | (simp; omega)) (hkd : inB kd 1 4 = true := by first | assumption | omega | (simp; done) | (simp; omega)) (hs : zSc s ≤ 2000000 := by first | assumption | omega | (simp; done) | (simp; omega)) (hm : zMdb m + zRow row ≤ 1900000 := by first | assumption | omega | (simp; done) | (simp; omega)) : T 50 [aE s, .val true [slE false m], .val true [i6 kd, i6 t, slE false row]] [(true, [slE false (apN s m ⟨kd, t, row⟩).1]), vI (apN s m ⟨kd, t, row⟩).2] [none, none, none] := by
  refine w_call md2 [[1], []] Tryz.func50 rfl ?_
  obtain ⟨q1, q2⟩ := zSc_b hs
  have hm2 : zMdb m ≤ 2000000 := by omega
  obtain ⟨z1, z2⟩ := zMdb_b hm2
  have hr : RvB row := RvB.of (by omega)
  have hrl := hr.1
  have hf := mo_fb hmo
  have hml := mo_len hmo
  have hI := tx93 (s := s) (kd := kd) (t := t) (row := row)
  by_cases ht : inB t 0 ((s.length : Int) - 1) = true
  · have hb := inB_iff.1 ht
    obtain ⟨k, rfl⟩ : ∃ k : Nat, t = k := ⟨t.toNat, by omega⟩
    have h2 : k < s.length := by omega
    have h3 : k < m.length := by omega
    have hd := q2 k h2
    have hcd := cd_fb hf h2
    have hrw := mo_rw hmo h2 h3
    have hpl := ppN_len (d := s[k])
    obtain ⟨z3, z4⟩ := z2 k h3
    rw [ofN_y h2] at hI
    by_cases c1 : ofT s[k] k ⟨kd, k, row⟩ = 0
    · rw [c1] at hI
      have hK := tx95 (s := s) (kd := kd) (k := k) (row := row)
      obtain ⟨key, hkey⟩ : ∃ key, kyD s[k] ⟨kd, k, row⟩ = key := ⟨_, rfl⟩
      have hkl : key.length ≤ 2000000 := by
        by_cases h4 : kd = 4
        · rw [← hkey, kyD_4 (o := ⟨kd, k, row⟩) h4]; exact hrl
        · rw [← hkey, kyD_n (o := ⟨kd, k, row⟩) h4, pkR_len]; omega
      rw [hkey] at hK
      have hA := tx94 (s := s) (m := m) (t := k) (key := key)
      obtain ⟨a, ha⟩ : ∃ a, atN (ppN s[k]) m[k] key = a := ⟨_, rfl⟩
      rw [ha] at hA
      have hat : ∀ i (hi : i < m[k].length), ((i : Nat) : Int) = a ↔ pkR (ppN s[k]) m[k][i] = key := fun i hi => by
        rw [← ha]; exact at_iff hrw hi
      have hab : -1 ≤ a ∧ a ≤ 2000000 := by
        by_cases hn : 0 ≤ a
        · obtain ⟨j, rfl⟩ : ∃ j : Nat, a = j := ⟨a.toNat, by omega⟩
          have := atN_lt ha
          omega
        · have := atN_nn (plan := ppN s[k]) (rows := m[k]) (key := key) (by rw [ha]; exact hn)
          omega
      have hkc : ∀ b, T 96 [.val true [i6 kd, i6 k, slE false row], aB b] [vI (thN ⟨kd, k, row⟩ b)] [none, none] := fun b => tx96 (t := k) (row := row)
      by_cases hn : 0 ≤ a
      · skip
        have his := isN_y (d := s[k]) (rows := m[k]) (o := ⟨kd, k, row⟩) (by rw [hkey]; exact ha) hn
        have hT := hkc true
        by_cases c2 : thN ⟨kd, k, row⟩ true = 0
        · rw [c2] at hT
          have c3 : thN ⟨kd, k, row⟩ (isN s[k] m[k] ⟨kd, k, row⟩) = 0 := by rw [his]; exact c2
          by_cases h4 : kd = 4
          · subst h4
            have hky : row = key := by rw [← hkey, kyD_4 rfl]
            subst hky
            repeat' ((conv => whnf); (first | (apply cx93; refine kl (hI) ?_) | (apply cx95; refine kl (hK) ?_) | (apply cx94; refine kl (hA) ?_) | (apply cx96; refine kl (hT) ?_) | refine And.intro ⟨by omega, by omega⟩ (Exists.intro _ (And.intro (rdI (i := k) (by omega) (by omega)) ?_)) | (apply cx76; refine kl (tx76 (d := s[k])) ?_) | refine k0 ?_ | refine jA fun _ => ?_ | refine jB fun _ => ?_ | refine kC (fun _ => ?_) fun _ => ?_ | (apply cx93; refine kl tx93 ?_) | (apply cx95; refine kl tx95 ?_) | (apply cx94; refine kl tx94 ?_) | (apply cx96; refine kl tx96 ?_) | (apply cx76; refine kl tx76 ?_) | (apply cx81; refine kl tx81 ?_) | (apply cx80; refine kl tx80 ?_) | (apply cx79; refine kl tx79 ?_) | (apply cx92; refine kl tx92 ?_) | (apply cx49; refine kl tx49 ?_) | refine jst ?_ | exact ⟨rfl, rfl⟩ | exact jV | fail))
            conv => whnf
            refine loopk (ι := Nat × List (List Vl) × Bool) (fun i => (i.1 ≤ m[k].length ∧ sgT (ppN s[k]) row row true m[k] i.1 = i.2) ∧ i.2.2 = true) (fun i => m[k].length - i.1) (0, [], true) [0, 4, 5, 6, 9, 12, 55, 56] (fun i => [(11, .v false [.ref 7 0 i.2.1.length 1]), (13, .v false [b1 i.2.2]), (57, .v false [i6 i.1])]) [none, none, none, none, none, none, none, some fun i => some (true, cs false i.2.1)] ?_
            refine ⟨⟨⟨Nat.zero_le _, rfl⟩, rfl⟩, ?_, fun z hz => ?_⟩
            · exact (w_virt 11 1 rfl rfl).trans (jw [])
            · obtain ⟨i, out, put⟩ := z
              obtain ⟨⟨hi, hx⟩, hp⟩ := hz
              simp only at hi hx hp
              have hol := sgT_len (l := (ppN s[k])) (key := row) (row := row) (b := true) hi
              rw [hx] at hol
              simp only at hol
              subst hp
              repeat' ((conv => whnf); (first | refine k0 ?_ | (apply cx93; refine kl tx93 ?_) | (apply cx95; refine kl tx95 ?_) | (apply cx94; refine kl tx94 ?_) | (apply cx96; refine kl tx96 ?_) | (apply cx76; refine kl tx76 ?_) | (apply cx81; refine kl tx81 ?_) | (apply cx80; refine kl tx80 ?_) | (apply cx79; refine kl tx79 ?_) | (apply cx92; refine kl tx92 ?_) | (apply cx49; refine kl tx49 ?_) | refine jst ?_ | exact ⟨rfl, rfl⟩ | exact jV | fail))
              conv => whnf
              refine ⟨fun hlt => ?_, fun hge => ?_⟩
              · have hi2 : i < m[k].length := by omega
                by_cases e : pkR (ppN s[k]) m[k][i] = row
                · have ea := (hat i hi2).2 e
                  repeat' ((conv => whnf); (first | refine k0 ?_ | refine jA fun _ => ?_ | refine jB fun _ => ?_ | refine kC (fun _ => ?_) fun _ => ?_ | (apply cx93; refine kl tx93 ?_) | (apply cx95; refine kl tx95 ?_) | (apply cx94; refine kl tx94 ?_) | (apply cx96; refine kl tx96 ?_) | (apply cx76; refine kl tx76 ?_) | (apply cx81; refine kl tx81 ?_) | (apply cx80; refine kl tx80 ?_) | (apply cx79; refine kl tx79 ?_) | (apply cx92; refine kl tx92 ?_) | (apply cx49; refine kl tx49 ?_) | refine jst ?_ | exact ⟨rfl, rfl⟩ | exact jV | fail))
                  refine ⟨⟨(i + 1, out, true), ⟨⟨by simp only; omega, sgT_suc hi2 hx (sgI_e e)⟩, rfl⟩⟩, by simp only; omega, ?_⟩
                  exact jw []
                · have ea : ¬ ((i : Nat) : Int) = a := fun q => e ((hat i hi2).1 q)
                  repeat' ((conv => whnf); (first | refine jap (N := cs false ([m[k][i]] : List (List Vl))) (apE (o := false) (xs := out) ?_) | refine k0 ?_ | refine jA fun _ => ?_ | refine jB fun _ => ?_ | refine kC (fun _ => ?_) fun _ => ?_ | (apply cx93; refine kl tx93 ?_) | (apply cx95; refine kl tx95 ?_) | (apply cx94; refine kl tx94 ?_) | (apply cx96; refine kl tx96 ?_) | (apply cx76; refine kl tx76 ?_) | (apply cx81; refine kl tx81 ?_) | (apply cx80; refine kl tx80 ?_) | (apply cx79; refine kl tx79 ?_) | (apply cx92; refine kl tx92 ?_) | (apply cx49; refine kl tx49 ?_) | refine jst ?_ | exact ⟨rfl, rfl⟩ | exact jV | fail))
                  refine ⟨⟨(i + 1, out ++ [m[k][i]], true), ⟨⟨by simp only; omega, sgT_suc hi2 hx (sgI_p e)⟩, rfl⟩⟩, by simp only; omega, ?_⟩
                  exact jw []
              · obtain rfl : i = m[k].length := by omega
                obtain ⟨j, hj⟩ : ∃ j : Nat, a = j := ⟨a.toNat, by omega⟩
                have hnr := nr_4 (t := k) hrw (ha.trans hj) hx
                have hac : acT s[k] k m[k] ⟨4, k, row⟩ = 0 := acT_0 c1 c3 (.inl rfl)
                have hzz := nrN_z (d := s[k]) (rows := m[k]) (o := ⟨4, k, row⟩)
                rw [hnr] at hzz
                have hzt := z_tab h3
                have hzo : zMdb [out] ≤ 2000000 := by rw [z_one]; simp only at hzz; omega
                repeat' ((conv => whnf); (first | refine bstep (w_tmpF false 11 7 out out.length 1) ?_ | (apply cx49; refine kl ((t_impl_copyMdbG (m := [out]))) ?_) | (apply cx49; refine kl (tx49 (m := m)) ?_) | refine And.intro ⟨by omega, by omega⟩ (Exists.intro _ (And.intro (rdI (i := k) (by omega) (by omega)) ?_)) | refine And.intro ⟨rfl, rfl, rfl⟩ ?_ | refine And.intro ⟨by first | omega | (simp; done), by first | omega | (simp; done)⟩ (Exists.intro [slE false (out)] (And.intro rfl ?_)) | refine ko (ptTab h3) ?_ | refine bstep (w_freeze 8 rfl (csTab h3)) ?_ | refine ⟨snc, cs false (m.set k (out)), cs_wset, ?_⟩ | refine k0 ?_ | refine jA fun _ => ?_ | refine jB fun _ => ?_ | refine kC (fun _ => ?_) fun _ => ?_ | (apply cx93; refine kl tx93 ?_) | (apply cx95; refine kl tx95 ?_) | (apply cx94; refine kl tx94 ?_) | (apply cx96; refine kl tx96 ?_) | (apply cx76; refine kl tx76 ?_) | (apply cx81; refine kl tx81 ?_) | (apply cx80; refine kl tx80 ?_) | (apply cx79; refine kl tx79 ?_) | (apply cx92; refine kl tx92 ?_) | (apply cx49; refine kl tx49 ?_) | refine jst ?_ | exact ⟨rfl, rfl⟩ | exact jV | fail))
                exact ⟨by rw [apN_y ⟨hmo, hkd⟩ h2 h3 hac, hnr]; exact congrArg (fun c => [(true, [c]), vI 0]) sl_set, rfl⟩
          · have hky : key = pkR (ppN s[k]) row := by rw [← hkey, kyD_n (o := ⟨kd, k, row⟩) h4]
            subst hky
            repeat' ((conv => whnf); (first | (apply cx93; refine kl (hI) ?_) | (apply cx95; refine kl (hK) ?_) | (apply cx94; refine kl (hA) ?_) | (apply cx96; refine kl (hT) ?_) | refine And.intro ⟨by omega, by omega⟩ (Exists.intro _ (And.intro (rdI (i := k) (by omega) (by omega)) ?_)) | (apply cx76; refine kl (tx76 (d := s[k])) ?_) | refine k0 ?_ | refine jA fun _ => ?_ | refine jB fun _ => ?_ | refine kC (fun _ => ?_) fun _ => ?_ | (apply cx93; refine kl tx93 ?_) | (apply cx95; refine kl tx95 ?_) | (apply cx94; refine kl tx94 ?_) | (apply cx96; refine kl tx96 ?_) | (apply cx76; refine kl tx76 ?_) | (apply cx81; refine kl tx81 ?_) | (apply cx80; refine kl tx80 ?_) | (apply cx79; refine kl tx79 ?_) | (apply cx92; refine kl tx92 ?_) | (apply cx49; refine kl tx49 ?_) | refine jst ?_ | exact ⟨rfl, rfl⟩ | exact jV | fail))
            conv => whnf
            refine loopk (ι := Nat × List (List Vl) × Bool) (fun i => (i.1 ≤ m[k].length ∧ sgT (ppN s[k]) (pkR (ppN s[k]) row) row false m[k] i.1 = i.2) ∧ ∀ j (h : j < m[k].length), j < i.1 → pkR (ppN s[k]) m[k][j] ≠ pkR (ppN s[k]) row → clN2 s[k] m[k][j] row = false) (fun i => m[k].length - i.1) (0, [], false) [0, 4, 5, 6, 9, 12, 55, 56] (fun i => [(11, .v false [.ref 7 0 i.2.1.length 1]), (13, .v false [b1 i.2.2]), (57, .v false [i6 i.1])]) [none, none, none, none, none, none, none, some fun i => some (true, cs false i.2.1)] ?_
            refine ⟨⟨⟨Nat.zero_le _, rfl⟩, by intros; omega⟩, ?_, fun z hz => ?_⟩
            · exact (w_virt 11 1 rfl rfl).trans (jw [])
            · obtain ⟨i, out, put⟩ := z
              obtain ⟨⟨hi, hx⟩, hp⟩ := hz
              simp only at hi hx hp
              have hol := sgT_len (l := (ppN s[k])) (key := (pkR (ppN s[k]) row)) (row := row) (b := false) hi
              rw [hx] at hol
              simp only at hol
              repeat' ((conv => whnf); (first | refine k0 ?_ | (apply cx93; refine kl tx93 ?_) | (apply cx95; refine kl tx95 ?_) | (apply cx94; refine kl tx94 ?_) | (apply cx96; refine kl tx96 ?_) | (apply cx76; refine kl tx76 ?_) | (apply cx81; refine kl tx81 ?_) | (apply cx80; refine kl tx80 ?_) | (apply cx79; refine kl tx79 ?_) | (apply cx92; refine kl tx92 ?_) | (apply cx49; refine kl tx49 ?_) | refine jst ?_ | exact ⟨rfl, rfl⟩ | exact jV | fail))
              conv => whnf
              refine ⟨fun hlt => ?_, fun hge => ?_⟩
              · have hi2 : i < m[k].length := by omega
                have hzr := z4 i hi2
                have lp1 := pkR_len (l := (ppN s[k])) (r := row)
                have lp2 := pkR_len (l := (ppN s[k])) (r := m[k][i])
                by_cases e : pkR (ppN s[k]) m[k][i] = pkR (ppN s[k]) row
                · have ea := (hat i hi2).2 e
                  repeat' ((conv => whnf); (first | refine k0 ?_ | refine jA fun _ => ?_ | refine jB fun _ => ?_ | refine kC (fun _ => ?_) fun _ => ?_ | (apply cx93; refine kl tx93 ?_) | (apply cx95; refine kl tx95 ?_) | (apply cx94; refine kl tx94 ?_) | (apply cx96; refine kl tx96 ?_) | (apply cx76; refine kl tx76 ?_) | (apply cx81; refine kl tx81 ?_) | (apply cx80; refine kl tx80 ?_) | (apply cx79; refine kl tx79 ?_) | (apply cx92; refine kl tx92 ?_) | (apply cx49; refine kl tx49 ?_) | refine jst ?_ | exact ⟨rfl, rfl⟩ | exact jV | fail))
                  refine ⟨⟨(i + 1, out, put), ⟨⟨by simp only; omega, sgT_suc hi2 hx (sgI_e e)⟩, all_suc hp hi2 (fun q => absurd e q)⟩⟩, by simp only; omega, ?_⟩
                  exact jw []
                · have ea : ¬ ((i : Nat) : Int) = a := fun q => e ((hat i hi2).1 q)
                  have hC : T 81 [.val true (dfC false s[k]), aE m[k][i], aE row] [vB (clN2 s[k] m[k][i] row)] [none, none, none] := tx81 hcd
                  cases e2 : clN2 s[k] m[k][i] row
                  · rw [e2] at hC
                    cases put
                    · have hL : T 79 [aE (ppN s[k]), aE (pkR (ppN s[k]) row), aE (pkR (ppN s[k]) m[k][i])] [vB (lkK (ppN s[k]) (pkR (ppN s[k]) row) (pkR (ppN s[k]) m[k][i]))] [none, none, none] := tx79
                      cases e3 : lkK (ppN s[k]) (pkR (ppN s[k]) row) (pkR (ppN s[k]) m[k][i])
                      · rw [e3] at hL
                        repeat' ((conv => whnf); (first | refine And.intro ⟨by omega, by omega⟩ (Exists.intro _ (And.intro (rdI (i := k) (by omega) (by omega)) ?_)) | (apply cx81; refine kl (hC) ?_) | (apply cx79; refine kl (hL) ?_) | (apply cx80; refine kl (tx80 (l := (ppN s[k])) (r := row)) ?_) | (apply cx80; refine kl (tx80 (l := (ppN s[k])) (r := m[k][i])) ?_) | refine jap (N := cs false ([m[k][i]] : List (List Vl))) (apE (o := false) (xs := out) ?_) | refine k0 ?_ | refine jA fun _ => ?_ | refine jB fun _ => ?_ | refine kC (fun _ => ?_) fun _ => ?_ | (apply cx93; refine kl tx93 ?_) | (apply cx95; refine kl tx95 ?_) | (apply cx94; refine kl tx94 ?_) | (apply cx96; refine kl tx96 ?_) | (apply cx76; refine kl tx76 ?_) | (apply cx81; refine kl tx81 ?_) | (apply cx80; refine kl tx80 ?_) | (apply cx79; refine kl tx79 ?_) | (apply cx92; refine kl tx92 ?_) | (apply cx49; refine kl tx49 ?_) | refine jst ?_ | exact ⟨rfl, rfl⟩ | exact jV | fail))
                        refine ⟨⟨(i + 1, out ++ [m[k][i]], false), ⟨⟨by simp only; omega, sgT_suc hi2 hx (sgI_n e e3)⟩, all_suc hp hi2 (fun _ => e2)⟩⟩, by simp only; omega, ?_⟩
                        exact jw []
                      · rw [e3] at hL
                        repeat' ((conv => whnf); (first | refine And.intro ⟨by omega, by omega⟩ (Exists.intro _ (And.intro (rdI (i := k) (by omega) (by omega)) ?_)) | (apply cx81; refine kl (hC) ?_) | (apply cx79; refine kl (hL) ?_) | (apply cx80; refine kl (tx80 (l := (ppN s[k])) (r := row)) ?_) | (apply cx80; refine kl (tx80 (l := (ppN s[k])) (r := m[k][i])) ?_) | (apply cx92; refine kl (tx92 (r := row)) ?_) | refine jap (m := 1) (N := [.ref 10 0 row.length 3]) (apR (o := false) (xs := out) ?_) | refine bstep (w_inF true 12 10 (cs false out) row [] row.length 3 (cs1 := cs false (out ++ [row])) cs_snF) ?_ | refine jap (N := cs false ([m[k][i]] : List (List Vl))) (apE (o := false) (xs := out ++ [row]) ?_) | refine k0 ?_ | refine jA fun _ => ?_ | refine jB fun _ => ?_ | refine kC (fun _ => ?_) fun _ => ?_ | (apply cx93; refine kl tx93 ?_) | (apply cx95; refine kl tx95 ?_) | (apply cx94; refine kl tx94 ?_) | (apply cx96; refine kl tx96 ?_) | (apply cx76; refine kl tx76 ?_) | (apply cx81; refine kl tx81 ?_) | (apply cx80; refine kl tx80 ?_) | (apply cx79; refine kl tx79 ?_) | (apply cx92; refine kl tx92 ?_) | (apply cx49; refine kl tx49 ?_) | refine jst ?_ | exact ⟨rfl, rfl⟩ | exact jV | fail))
                        refine ⟨⟨(i + 1, out ++ [row] ++ [m[k][i]], true), ⟨⟨by simp only; omega, sgT_suc hi2 hx (sgI_z e e3)⟩, all_suc hp hi2 (fun _ => e2)⟩⟩, by simp only; omega, ?_⟩
                        exact jw []
                    · repeat' ((conv => whnf); (first | refine And.intro ⟨by omega, by omega⟩ (Exists.intro _ (And.intro (rdI (i := k) (by omega) (by omega)) ?_)) | (apply cx81; refine kl (hC) ?_) | refine jap (N := cs false ([m[k][i]] : List (List Vl))) (apE (o := false) (xs := out) ?_) | refine k0 ?_ | refine jA fun _ => ?_ | refine jB fun _ => ?_ | refine kC (fun _ => ?_) fun _ => ?_ | (apply cx93; refine kl tx93 ?_) | (apply cx95; refine kl tx95 ?_) | (apply cx94; refine kl tx94 ?_) | (apply cx96; refine kl tx96 ?_) | (apply cx76; refine kl tx76 ?_) | (apply cx81; refine kl tx81 ?_) | (apply cx80; refine kl tx80 ?_) | (apply cx79; refine kl tx79 ?_) | (apply cx92; refine kl tx92 ?_) | (apply cx49; refine kl tx49 ?_) | refine jst ?_ | exact ⟨rfl, rfl⟩ | exact jV | fail))
                      refine ⟨⟨(i + 1, out ++ [m[k][i]], true), ⟨⟨by simp only; omega, sgT_suc hi2 hx (sgI_p e)⟩, all_suc hp hi2 (fun _ => e2)⟩⟩, by simp only; omega, ?_⟩
                      exact jw []
                  · rw [e2] at hC
                    have h5 := acT_5 c1 c3 h4 (tk_y hi2 e e2)
                    repeat' ((conv => whnf); (first | refine And.intro ⟨by omega, by omega⟩ (Exists.intro _ (And.intro (rdI (i := k) (by omega) (by omega)) ?_)) | (apply cx81; refine kl (hC) ?_) | refine k0 ?_ | refine jA fun _ => ?_ | refine jB fun _ => ?_ | refine kC (fun _ => ?_) fun _ => ?_ | (apply cx93; refine kl tx93 ?_) | (apply cx95; refine kl tx95 ?_) | (apply cx94; refine kl tx94 ?_) | (apply cx96; refine kl tx96 ?_) | (apply cx76; refine kl tx76 ?_) | (apply cx81; refine kl tx81 ?_) | (apply cx80; refine kl tx80 ?_) | (apply cx79; refine kl tx79 ?_) | (apply cx92; refine kl tx92 ?_) | (apply cx49; refine kl tx49 ?_) | refine jst ?_ | exact ⟨rfl, rfl⟩ | exact jV | fail))
                    exact ⟨by rw [apN_e ⟨hmo, hkd⟩ h2 h3 (by rw [h5]; decide), h5]; rfl, rfl⟩
              · obtain rfl : i = m[k].length := by omega
                have hnr := nr_n (t := k) h4 hrw hx
                have htk : tkN s[k] m[k] row = false := tk_n (fun j hj q => hp j hj hj q)
                cases put
                · have hnr : nrN s[k] m[k] ⟨kd, k, row⟩ = out ++ [row] := hnr
                  have hac : acT s[k] k m[k] ⟨kd, k, row⟩ = 0 := acT_0 c1 c3 (.inr htk)
                  have hzz := nrN_z (d := s[k]) (rows := m[k]) (o := ⟨kd, k, row⟩)
                  rw [hnr] at hzz
                  have hzt := z_tab h3
                  have hzo : zMdb [out ++ [row]] ≤ 2000000 := by rw [z_one]; simp only at hzz; omega
                  repeat' ((conv => whnf); (first | (apply cx92; refine kl (tx92 (r := row)) ?_) | refine jap (m := 1) (N := [.ref 8 0 row.length 3]) (apR (o := false) (xs := out) ?_) | refine bstep (w_inF true 10 8 (cs false out) row [] row.length 3 (cs1 := cs false (out ++ [row])) cs_snF) ?_ | refine bstep (w_tmpF false 11 10 (out ++ [row]) (out.length + 1) 1) ?_ | (apply cx49; refine kl ((t_impl_copyMdbG (m := [out ++ [row]]))) ?_) | (apply cx49; refine kl (tx49 (m := m)) ?_) | refine And.intro ⟨by omega, by omega⟩ (Exists.intro _ (And.intro (rdI (i := k) (by omega) (by omega)) ?_)) | refine And.intro ⟨rfl, rfl, rfl⟩ ?_ | refine And.intro ⟨by first | omega | (simp; done), by first | omega | (simp; done)⟩ (Exists.intro [slE false (out ++ [row])] (And.intro rfl ?_)) | refine ko (ptTab h3) ?_ | refine bstep (w_freeze 11 rfl (csTab h3)) ?_ | refine ⟨snc, cs false (m.set k (out ++ [row])), cs_wset, ?_⟩ | refine k0 ?_ | refine jA fun _ => ?_ | refine jB fun _ => ?_ | refine kC (fun _ => ?_) fun _ => ?_ | (apply cx93; refine kl tx93 ?_) | (apply cx95; refine kl tx95 ?_) | (apply cx94; refine kl tx94 ?_) | (apply cx96; refine kl tx96 ?_) | (apply cx76; refine kl tx76 ?_) | (apply cx81; refine kl tx81 ?_) | (apply cx80; refine kl tx80 ?_) | (apply cx79; refine kl tx79 ?_) | (apply cx92; refine kl tx92 ?_) | (apply cx49; refine kl tx49 ?_) | refine jst ?_ | exact ⟨rfl, rfl⟩ | exact jV | fail))
                  exact ⟨by rw [apN_y ⟨hmo, hkd⟩ h2 h3 hac, hnr]; exact congrArg (fun c => [(true, [c]), vI 0]) sl_set, rfl⟩
                · have hnr : nrN s[k] m[k] ⟨kd, k, row⟩ = out := hnr
                  have hac : acT s[k] k m[k] ⟨kd, k, row⟩ = 0 := acT_0 c1 c3 (.inr htk)
                  have hzz := nrN_z (d := s[k]) (rows := m[k]) (o := ⟨kd, k, row⟩)
                  rw [hnr] at hzz
                  have hzt := z_tab h3
                  have hzo : zMdb [out] ≤ 2000000 := by rw [z_one]; simp only at hzz; omega
                  repeat' ((conv => whnf); (first | refine bstep (w_tmpF false 11 7 out out.length 1) ?_ | (apply cx49; refine kl ((t_impl_copyMdbG (m := [out]))) ?_) | (apply cx49; refine kl (tx49 (m := m)) ?_) | refine And.intro ⟨by omega, by omega⟩ (Exists.intro _ (And.intro (rdI (i := k) (by omega) (by omega)) ?_)) | refine And.intro ⟨rfl, rfl, rfl⟩ ?_ | refine And.intro ⟨by first | omega | (simp; done), by first | omega | (simp; done)⟩ (Exists.intro [slE false (out)] (And.intro rfl ?_)) | refine ko (ptTab h3) ?_ | refine bstep (w_freeze 8 rfl (csTab h3)) ?_ | refine ⟨snc, cs false (m.set k (out)), cs_wset, ?_⟩ | refine k0 ?_ | refine jA fun _ => ?_ | refine jB fun _ => ?_ | refine kC (fun _ => ?_) fun _ => ?_ | (apply cx93; refine kl tx93 ?_) | (apply cx95; refine kl tx95 ?_) | (apply cx94; refine kl tx94 ?_) | (apply cx96; refine kl tx96 ?_) | (apply cx76; refine kl tx76 ?_) | (apply cx81; refine kl tx81 ?_) | (apply cx80; refine kl tx80 ?_) | (apply cx79; refine kl tx79 ?_) | (apply cx92; refine kl tx92 ?_) | (apply cx49; refine kl tx49 ?_) | refine jst ?_ | exact ⟨rfl, rfl⟩ | exact jV | fail))
                  exact ⟨by rw [apN_y ⟨hmo, hkd⟩ h2 h3 hac, hnr]; exact congrArg (fun c => [(true, [c]), vI 0]) sl_set, rfl⟩
        · rw [apN_e ⟨hmo, hkd⟩ h2 h3 (by rw [acT_t c1 (by rw [his]; exact c2), his]; exact c2), acT_t c1 (by rw [his]; exact c2), his]
          generalize thN ⟨kd, k, row⟩ true = c at *
          repeat' ((conv => whnf); (first | (apply cx93; refine kl (hI) ?_) | (apply cx95; refine kl (hK) ?_) | (apply cx94; refine kl (hA) ?_) | (apply cx96; refine kl (hT) ?_) | refine And.intro ⟨by omega, by omega⟩ (Exists.intro _ (And.intro (rdI (i := k) (by omega) (by omega)) ?_)) | (apply cx76; refine kl (tx76 (d := s[k])) ?_) | refine k0 ?_ | refine jA fun _ => ?_ | refine jB fun _ => ?_ | refine kC (fun _ => ?_) fun _ => ?_ | (apply cx93; refine kl tx93 ?_) | (apply cx95; refine kl tx95 ?_) | (apply cx94; refine kl tx94 ?_) | (apply cx96; refine kl tx96 ?_) | (apply cx76; refine kl tx76 ?_) | (apply cx81; refine kl tx81 ?_) | (apply cx80; refine kl tx80 ?_) | (apply cx79; refine kl tx79 ?_) | (apply cx92; refine kl tx92 ?_) | (apply cx49; refine kl tx49 ?_) | refine jst ?_ | exact ⟨rfl, rfl⟩ | exact jV | fail))
      · skip
        have his := isN_n (d := s[k]) (rows := m[k]) (o := ⟨kd, k, row⟩) (by rw [hkey]; exact ha) hn
        have hT := hkc false
        by_cases c2 : thN ⟨kd, k, row⟩ false = 0
        · rw [c2] at hT
          have c3 : thN ⟨kd, k, row⟩ (isN s[k] m[k] ⟨kd, k, row⟩) = 0 := by rw [his]; exact c2
          by_cases h4 : kd = 4
          · subst h4; rw [th_4] at c2; exact absurd c2 (by decide)
          · have hky : key = pkR (ppN s[k]) row := by rw [← hkey, kyD_n (o := ⟨kd, k, row⟩) h4]
            subst hky
            repeat' ((conv => whnf); (first | (apply cx93; refine kl (hI) ?_) | (apply cx95; refine kl (hK) ?_) | (apply cx94; refine kl (hA) ?_) | (apply cx96; refine kl (hT) ?_) | refine And.intro ⟨by omega, by omega⟩ (Exists.intro _ (And.intro (rdI (i := k) (by omega) (by omega)) ?_)) | (apply cx76; refine kl (tx76 (d := s[k])) ?_) | refine k0 ?_ | refine jA fun _ => ?_ | refine jB fun _ => ?_ | refine kC (fun _ => ?_) fun _ => ?_ | (apply cx93; refine kl tx93 ?_) | (apply cx95; refine kl tx95 ?_) | (apply cx94; refine kl tx94 ?_) | (apply cx96; refine kl tx96 ?_) | (apply cx76; refine kl tx76 ?_) | (apply cx81; refine kl tx81 ?_) | (apply cx80; refine kl tx80 ?_) | (apply cx79; refine kl tx79 ?_) | (apply cx92; refine kl tx92 ?_) | (apply cx49; refine kl tx49 ?_) | refine jst ?_ | exact ⟨rfl, rfl⟩ | exact jV | fail))
            conv => whnf
            refine loopk (ι := Nat × List (List Vl) × Bool) (fun i => (i.1 ≤ m[k].length ∧ sgT (ppN s[k]) (pkR (ppN s[k]) row) row false m[k] i.1 = i.2) ∧ ∀ j (h : j < m[k].length), j < i.1 → pkR (ppN s[k]) m[k][j] ≠ pkR (ppN s[k]) row → clN2 s[k] m[k][j] row = false) (fun i => m[k].length - i.1) (0, [], false) [0, 4, 5, 6, 9, 12, 55, 56] (fun i => [(11, .v false [.ref 7 0 i.2.1.length 1]), (13, .v false [b1 i.2.2]), (57, .v false [i6 i.1])]) [none, none, none, none, none, none, none, some fun i => some (true, cs false i.2.1)] ?_
            refine ⟨⟨⟨Nat.zero_le _, rfl⟩, by intros; omega⟩, ?_, fun z hz => ?_⟩
            · exact (w_virt 11 1 rfl rfl).trans (jw [])
            · obtain ⟨i, out, put⟩ := z
              obtain ⟨⟨hi, hx⟩, hp⟩ := hz
              simp only at hi hx hp
              have hol := sgT_len (l := (ppN s[k])) (key := (pkR (ppN s[k]) row)) (row := row) (b := false) hi
              rw [hx] at hol
              simp only at hol
              repeat' ((conv => whnf); (first | refine k0 ?_ | (apply cx93; refine kl tx93 ?_) | (apply cx95; refine kl tx95 ?_) | (apply cx94; refine kl tx94 ?_) | (apply cx96; refine kl tx96 ?_) | (apply cx76; refine kl tx76 ?_) | (apply cx81; refine kl tx81 ?_) | (apply cx80; refine kl tx80 ?_) | (apply cx79; refine kl tx79 ?_) | (apply cx92; refine kl tx92 ?_) | (apply cx49; refine kl tx49 ?_) | refine jst ?_ | exact ⟨rfl, rfl⟩ | exact jV | fail))
              conv => whnf
              refine ⟨fun hlt => ?_, fun hge => ?_⟩
              · have hi2 : i < m[k].length := by omega
                have hzr := z4 i hi2
                have lp1 := pkR_len (l := (ppN s[k])) (r := row)
                have lp2 := pkR_len (l := (ppN s[k])) (r := m[k][i])
                by_cases e : pkR (ppN s[k]) m[k][i] = pkR (ppN s[k]) row
                · have ea := (hat i hi2).2 e
                  repeat' ((conv => whnf); (first | refine k0 ?_ | refine jA fun _ => ?_ | refine jB fun _ => ?_ | refine kC (fun _ => ?_) fun _ => ?_ | (apply cx93; refine kl tx93 ?_) | (apply cx95; refine kl tx95 ?_) | (apply cx94; refine kl tx94 ?_) | (apply cx96; refine kl tx96 ?_) | (apply cx76; refine kl tx76 ?_) | (apply cx81; refine kl tx81 ?_) | (apply cx80; refine kl tx80 ?_) | (apply cx79; refine kl tx79 ?_) | (apply cx92; refine kl tx92 ?_) | (apply cx49; refine kl tx49 ?_) | refine jst ?_ | exact ⟨rfl, rfl⟩ | exact jV | fail))
                  refine ⟨⟨(i + 1, out, put), ⟨⟨by simp only; omega, sgT_suc hi2 hx (sgI_e e)⟩, all_suc hp hi2 (fun q => absurd e q)⟩⟩, by simp only; omega, ?_⟩
                  exact jw []
                · have ea : ¬ ((i : Nat) : Int) = a := fun q => e ((hat i hi2).1 q)
                  have hC : T 81 [.val true (dfC false s[k]), aE m[k][i], aE row] [vB (clN2 s[k] m[k][i] row)] [none, none, none] := tx81 hcd
                  cases e2 : clN2 s[k] m[k][i] row
                  · rw [e2] at hC
                    cases put
                    · have hL : T 79 [aE (ppN s[k]), aE (pkR (ppN s[k]) row), aE (pkR (ppN s[k]) m[k][i])] [vB (lkK (ppN s[k]) (pkR (ppN s[k]) row) (pkR (ppN s[k]) m[k][i]))] [none, none, none] := tx79
                      cases e3 : lkK (ppN s[k]) (pkR (ppN s[k]) row) (pkR (ppN s[k]) m[k][i])
                      · rw [e3] at hL
                        repeat' ((conv => whnf); (first | refine And.intro ⟨by omega, by omega⟩ (Exists.intro _ (And.intro (rdI (i := k) (by omega) (by omega)) ?_)) | (apply cx81; refine kl (hC) ?_) | (apply cx79; refine kl (hL) ?_) | (apply cx80; refine kl (tx80 (l := (ppN s[k])) (r := row)) ?_) | (apply cx80; refine kl (tx80 (l := (ppN s[k])) (r := m[k][i])) ?_) | refine jap (N := cs false ([m[k][i]] : List (List Vl))) (apE (o := false) (xs := out) ?_) | refine k0 ?_ | refine jA fun _ => ?_ | refine jB fun _ => ?_ | refine kC (fun _ => ?_) fun _ => ?_ | (apply cx93; refine kl tx93 ?_) | (apply cx95; refine kl tx95 ?_) | (apply cx94; refine kl tx94 ?_) | (apply cx96; refine kl tx96 ?_) | (apply cx76; refine kl tx76 ?_) | (apply cx81; refine kl tx81 ?_) | (apply cx80; refine kl tx80 ?_) | (apply cx79; refine kl tx79 ?_) | (apply cx92; refine kl tx92 ?_) | (apply cx49; refine kl tx49 ?_) | refine jst ?_ | exact ⟨rfl, rfl⟩ | exact jV | fail))
                        refine ⟨⟨(i + 1, out ++ [m[k][i]], false), ⟨⟨by simp only; omega, sgT_suc hi2 hx (sgI_n e e3)⟩, all_suc hp hi2 (fun _ => e2)⟩⟩, by simp only; omega, ?_⟩
                        exact jw []
                      · rw [e3] at hL
                        repeat' ((conv => whnf); (first | refine And.intro ⟨by omega, by omega⟩ (Exists.intro _ (And.intro (rdI (i := k) (by omega) (by omega)) ?_)) | (apply cx81; refine kl (hC) ?_) | (apply cx79; refine kl (hL) ?_) | (apply cx80; refine kl (tx80 (l := (ppN s[k])) (r := row)) ?_) | (apply cx80; refine kl (tx80 (l := (ppN s[k])) (r := m[k][i])) ?_) | (apply cx92; refine kl (tx92 (r := row)) ?_) | refine jap (m := 1) (N := [.ref 10 0 row.length 3]) (apR (o := false) (xs := out) ?_) | refine bstep (w_inF true 12 10 (cs false out) row [] row.length 3 (cs1 := cs false (out ++ [row])) cs_snF) ?_ | refine jap (N := cs false ([m[k][i]] : List (List Vl))) (apE (o := false) (xs := out ++ [row]) ?_) | refine k0 ?_ | refine jA fun _ => ?_ | refine jB fun _ => ?_ | refine kC (fun _ => ?_) fun _ => ?_ | (apply cx93; refine kl tx93 ?_) | (apply cx95; refine kl tx95 ?_) | (apply cx94; refine kl tx94 ?_) | (apply cx96; refine kl tx96 ?_) | (apply cx76; refine kl tx76 ?_) | (apply cx81; refine kl tx81 ?_) | (apply cx80; refine kl tx80 ?_) | (apply cx79; refine kl tx79 ?_) | (apply cx92; refine kl tx92 ?_) | (apply cx49; refine kl tx49 ?_) | refine jst ?_ | exact ⟨rfl, rfl⟩ | exact jV | fail))
                        refine ⟨⟨(i + 1, out ++ [row] ++ [m[k][i]], true), ⟨⟨by simp only; omega, sgT_suc hi2 hx (sgI_z e e3)⟩, all_suc hp hi2 (fun _ => e2)⟩⟩, by simp only; omega, ?_⟩
                        exact jw []
                    · repeat' ((conv => whnf); (first | refine And.intro ⟨by omega, by omega⟩ (Exists.intro _ (And.intro (rdI (i := k) (by omega) (by omega)) ?_)) | (apply cx81; refine kl (hC) ?_) | refine jap (N := cs false ([m[k][i]] : List (List Vl))) (apE (o := false) (xs := out) ?_) | refine k0 ?_ | refine jA fun _ => ?_ | refine jB fun _ => ?_ | refine kC (fun _ => ?_) fun _ => ?_ | (apply cx93; refine kl tx93 ?_) | (apply cx95; refine kl tx95 ?_) | (apply cx94; refine kl tx94 ?_) | (apply cx96; refine kl tx96 ?_) | (apply cx76; refine kl tx76 ?_) | (apply cx81; refine kl tx81 ?_) | (apply cx80; refine kl tx80 ?_) | (apply cx79; refine kl tx79 ?_) | (apply cx92; refine kl tx92 ?_) | (apply cx49; refine kl tx49 ?_) | refine jst ?_ | exact ⟨rfl, rfl⟩ | exact jV | fail))
                      refine ⟨⟨(i + 1, out ++ [m[k][i]], true), ⟨⟨by simp only; omega, sgT_suc hi2 hx (sgI_p e)⟩, all_suc hp hi2 (fun _ => e2)⟩⟩, by simp only; omega, ?_⟩
                      exact jw []
                  · rw [e2] at hC
                    have h5 := acT_5 c1 c3 h4 (tk_y hi2 e e2)
                    repeat' ((conv => whnf); (first | refine And.intro ⟨by omega, by omega⟩ (Exists.intro _ (And.intro (rdI (i := k) (by omega) (by omega)) ?_)) | (apply cx81; refine kl (hC) ?_) | refine k0 ?_ | refine jA fun _ => ?_ | refine jB fun _ => ?_ | refine kC (fun _ => ?_) fun _ => ?_ | (apply cx93; refine kl tx93 ?_) | (apply cx95; refine kl tx95 ?_) | (apply cx94; refine kl tx94 ?_) | (apply cx96; refine kl tx96 ?_) | (apply cx76; refine kl tx76 ?_) | (apply cx81; refine kl tx81 ?_) | (apply cx80; refine kl tx80 ?_) | (apply cx79; refine kl tx79 ?_) | (apply cx92; refine kl tx92 ?_) | (apply cx49; refine kl tx49 ?_) | refine jst ?_ | exact ⟨rfl, rfl⟩ | exact jV | fail))
                    exact ⟨by rw [apN_e ⟨hmo, hkd⟩ h2 h3 (by rw [h5]; decide), h5]; rfl, rfl⟩
              · obtain rfl : i = m[k].length := by omega
                have hnr := nr_n (t := k) h4 hrw hx
                have htk : tkN s[k] m[k] row = false := tk_n (fun j hj q => hp j hj hj q)
                cases put
                · have hnr : nrN s[k] m[k] ⟨kd, k, row⟩ = out ++ [row] := hnr
                  have hac : acT s[k] k m[k] ⟨kd, k, row⟩ = 0 := acT_0 c1 c3 (.inr htk)
                  have hzz := nrN_z (d := s[k]) (rows := m[k]) (o := ⟨kd, k, row⟩)
                  rw [hnr] at hzz
                  have hzt := z_tab h3
                  have hzo : zMdb [out ++ [row]] ≤ 2000000 := by rw [z_one]; simp only at hzz; omega
                  repeat' ((conv => whnf); (first | (apply cx92; refine kl (tx92 (r := row)) ?_) | refine jap (m := 1) (N := [.ref 8 0 row.length 3]) (apR (o := false) (xs := out) ?_) | refine bstep (w_inF true 10 8 (cs false out) row [] row.length 3 (cs1 := cs false (out ++ [row])) cs_snF) ?_ | refine bstep (w_tmpF false 11 10 (out ++ [row]) (out.length + 1) 1) ?_ | (apply cx49; refine kl ((t_impl_copyMdbG (m := [out ++ [row]]))) ?_) | (apply cx49; refine kl (tx49 (m := m)) ?_) | refine And.intro ⟨by omega, by omega⟩ (Exists.intro _ (And.intro (rdI (i := k) (by omega) (by omega)) ?_)) | refine And.intro ⟨rfl, rfl, rfl⟩ ?_ | refine And.intro ⟨by first | omega | (simp; done), by first | omega | (simp; done)⟩ (Exists.intro [slE false (out ++ [row])] (And.intro rfl ?_)) | refine ko (ptTab h3) ?_ | refine bstep (w_freeze 11 rfl (csTab h3)) ?_ | refine ⟨snc, cs false (m.set k (out ++ [row])), cs_wset, ?_⟩ | refine k0 ?_ | refine jA fun _ => ?_ | refine jB fun _ => ?_ | refine kC (fun _ => ?_) fun _ => ?_ | (apply cx93; refine kl tx93 ?_) | (apply cx95; refine kl tx95 ?_) | (apply cx94; refine kl tx94 ?_) | (apply cx96; refine kl tx96 ?_) | (apply cx76; refine kl tx76 ?_) | (apply cx81; refine kl tx81 ?_) | (apply cx80; refine kl tx80 ?_) | (apply cx79; refine kl tx79 ?_) | (apply cx92; refine kl tx92 ?_) | (apply cx49; refine kl tx49 ?_) | refine jst ?_ | exact ⟨rfl, rfl⟩ | exact jV | fail))
                  exact ⟨by rw [apN_y ⟨hmo, hkd⟩ h2 h3 hac, hnr]; exact congrArg (fun c => [(true, [c]), vI 0]) sl_set, rfl⟩
                · have hnr : nrN s[k] m[k] ⟨kd, k, row⟩ = out := hnr
                  have hac : acT s[k] k m[k] ⟨kd, k, row⟩ = 0 := acT_0 c1 c3 (.inr htk)
                  have hzz := nrN_z (d := s[k]) (rows := m[k]) (o := ⟨kd, k, row⟩)
                  rw [hnr] at hzz
                  have hzt := z_tab h3
                  have hzo : zMdb [out] ≤ 2000000 := by rw [z_one]; simp only at hzz; omega
                  repeat' ((conv => whnf); (first | refine bstep (w_tmpF false 11 7 out out.length 1) ?_ | (apply cx49; refine kl ((t_impl_copyMdbG (m := [out]))) ?_) | (apply cx49; refine kl (tx49 (m := m)) ?_) | refine And.intro ⟨by omega, by omega⟩ (Exists.intro _ (And.intro (rdI (i := k) (by omega) (by omega)) ?_)) | refine And.intro ⟨rfl, rfl, rfl⟩ ?_ | refine And.intro ⟨by first | omega | (simp; done), by first | omega | (simp; done)⟩ (Exists.intro [slE false (out)] (And.intro rfl ?_)) | refine ko (ptTab h3) ?_ | refine bstep (w_freeze 8 rfl (csTab h3)) ?_ | refine ⟨snc, cs false (m.set k (out)), cs_wset, ?_⟩ | refine k0 ?_ | refine jA fun _ => ?_ | refine jB fun _ => ?_ | refine kC (fun _ => ?_) fun _ => ?_ | (apply cx93; refine kl tx93 ?_) | (apply cx95; refine kl tx95 ?_) | (apply cx94; refine kl tx94 ?_) | (apply cx96; refine kl tx96 ?_) | (apply cx76; refine kl tx76 ?_) | (apply cx81; refine kl tx81 ?_) | (apply cx80; refine kl tx80 ?_) | (apply cx79; refine kl tx79 ?_) | (apply cx92; refine kl tx92 ?_) | (apply cx49; refine kl tx49 ?_) | refine jst ?_ | exact ⟨rfl, rfl⟩ | exact jV | fail))
                  exact ⟨by rw [apN_y ⟨hmo, hkd⟩ h2 h3 hac, hnr]; exact congrArg (fun c => [(true, [c]), vI 0]) sl_set, rfl⟩
        · rw [apN_e ⟨hmo, hkd⟩ h2 h3 (by rw [acT_t c1 (by rw [his]; exact c2), his]; exact c2), acT_t c1 (by rw [his]; exact c2), his]
          generalize thN ⟨kd, k, row⟩ false = c at *
          repeat' ((conv => whnf); (first | (apply cx93; refine kl (hI) ?_) | (apply cx95; refine kl (hK) ?_) | (apply cx94; refine kl (hA) ?_) | (apply cx96; refine kl (hT) ?_) | refine And.intro ⟨by omega, by omega⟩ (Exists.intro _ (And.intro (rdI (i := k) (by omega) (by omega)) ?_)) | (apply cx76; refine kl (tx76 (d := s[k])) ?_) | refine k0 ?_ | refine jA fun _ => ?_ | refine jB fun _ => ?_ | refine kC (fun _ => ?_) fun _ => ?_ | (apply cx93; refine kl tx93 ?_) | (apply cx95; refine kl tx95 ?_) | (apply cx94; refine kl tx94 ?_) | (apply cx96; refine kl tx96 ?_) | (apply cx76; refine kl tx76 ?_) | (apply cx81; refine kl tx81 ?_) | (apply cx80; refine kl tx80 ?_) | (apply cx79; refine kl tx79 ?_) | (apply cx92; refine kl tx92 ?_) | (apply cx49; refine kl tx49 ?_) | refine jst ?_ | exact ⟨rfl, rfl⟩ | exact jV | fail))
    · rw [apN_e ⟨hmo, hkd⟩ h2 h3 (by rw [acT_f c1]; exact c1), acT_f c1]
      generalize ofT s[k] k ⟨kd, k, row⟩ = c at *
      repeat' ((conv => whnf); (first | (apply cx93; refine kl (hI) ?_) | refine k0 ?_ | refine jA fun _ => ?_ | refine jB fun _ => ?_ | refine kC (fun _ => ?_) fun _ => ?_ | (apply cx93; refine kl tx93 ?_) | (apply cx95; refine kl tx95 ?_) | (apply cx94; refine kl tx94 ?_) | (apply cx96; refine kl tx96 ?_) | (apply cx76; refine kl tx76 ?_) | (apply cx81; refine kl tx81 ?_) | (apply cx80; refine kl tx80 ?_) | (apply cx79; refine kl tx79 ?_) | (apply cx92; refine kl tx92 ?_) | (apply cx49; refine kl tx49 ?_) | refine jst ?_ | exact ⟨rfl, rfl⟩ | exact jV | fail))
  · have hnn : ¬ (0 ≤ t ∧ t.toNat < s.length) := fun q => ht (inB_iff.2 (by omega))
    rw [ofN_n (o := ⟨kd, t, row⟩) hnn] at hI
    rw [apN_2 (o := ⟨kd, t, row⟩) ⟨hmo, hkd⟩ (fun q => hnn ⟨q.1, q.2.1⟩)]
    repeat' ((conv => whnf); (first | (apply cx93; refine kl (hI) ?_) | refine k0 ?_ | refine jA fun _ => ?_ | refine jB fun _ => ?_ | refine kC (fun _ => ?_) fun _ => ?_ | (apply cx93; refine kl tx93 ?_) | (apply cx95; refine kl tx95 ?_) | (apply cx94; refine kl tx94 ?_) | (apply cx96; refine kl tx96 ?_) | (apply cx76; refine kl tx76 ?_) | (apply cx81; refine kl tx81 ?_) | (apply cx80; refine kl tx80 ?_) | (apply cx79; refine kl tx79 ?_) | (apply cx92; refine kl tx92 ?_) | (apply cx49; refine kl tx49 ?_) | refine jst ?_ | exact ⟨rfl, rfl⟩ | exact jV | fail))

theorem cx50 {P : Program} {X : FuncId → List Arg → List (Bool × List Cell) → List (Option (List Cell)) → Prop} {a : List Arg} {Q : List (Bool × List Cell) → List (Option (List Cell)) → Prop} (h : ∃ b vals outs, a = b ∧ D P X (.call 50 b vals outs) ∧ Q vals outs) : CallS P X 50 a Q := ⟨h⟩

end Go.Proofs.YtopnaijeicknoaaGreatDoor
