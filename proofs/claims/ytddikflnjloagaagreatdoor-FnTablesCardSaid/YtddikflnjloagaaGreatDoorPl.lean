/- What the law comes to: functions of the program, each with what it gives back, and the plain facts behind them. -/
import Derived.Test.YtddikflnjloagaaGreatDoorChecked
import Derived.IntWalk
import Derived.Test.YtddikflnjloagaaGreatDoorPk
namespace Go.Proofs.YtddikflnjloagaaGreatDoor

section
open Go Go.RowKit Go.IntWalk

open Enc (sz cs)

attribute [local irreducible] IntKind.wrap

/-! ### An operation on right tables -/

attribute [local irreducible] pkR ppN bOf fbN cdN rpN atN tkN moS moI ofT ofN clN2 lkK acT nrN sgI

theorem cs_snF {out : List (List Vl)} {r : List Vl} : cs false out ++ [slE false r] ++ [] = cs false (out ++ [r]) := by
  rw [List.append_nil, Enc.app]; rfl

theorem acT_0 {d : Df} {k : Nat} {rows : List (List Vl)} {o : Opn} (h : ofT d k o = 0) (h2 : thN o (isN d rows o) = 0) (h3 : o.kind = 4 ∨ tkN d rows o.row = false) : acT d k rows o = 0 := by
  unfold acT
  rw [if_pos h, if_pos h2]
  rcases h3 with h3 | h3
  · rw [if_pos h3]
  · split
    · rfl
    · rw [if_neg (by rw [h3]; decide)]

theorem acT_5 {d : Df} {k : Nat} {rows : List (List Vl)} {o : Opn} (h : ofT d k o = 0) (h2 : thN o (isN d rows o) = 0) (h4 : ¬ o.kind = 4) (h3 : tkN d rows o.row = true) : acT d k rows o = 5 := by
  unfold acT
  rw [if_pos h, if_pos h2, if_neg h4, if_pos h3]

theorem acT_t {d : Df} {k : Nat} {rows : List (List Vl)} {o : Opn} (h : ofT d k o = 0) (h2 : ¬ thN o (isN d rows o) = 0) : acT d k rows o = thN o (isN d rows o) := by
  unfold acT
  rw [if_pos h, if_neg h2]

theorem acT_f {d : Df} {k : Nat} {rows : List (List Vl)} {o : Opn} (h : ¬ ofT d k o = 0) : acT d k rows o = ofT d k o := by
  unfold acT
  rw [if_neg h]

theorem isN_y {d : Df} {rows : List (List Vl)} {o : Opn} {a : Int} (ha : atN (ppN d) rows (kyD d o) = a) (h : 0 ≤ a) : isN d rows o = true := by
  unfold isN; rw [ha]; exact decide_eq_true h

theorem isN_n {d : Df} {rows : List (List Vl)} {o : Opn} {a : Int} (ha : atN (ppN d) rows (kyD d o) = a) (h : ¬ 0 ≤ a) : isN d rows o = false := by
  unfold isN; rw [ha]; exact decide_eq_false h

theorem sgT_all {l : List Prt} {key row : List Vl} {b : Bool} {rows : List (List Vl)} {x : List (List Vl) × Bool} (h : sgT l key row b rows rows.length = x) : rows.foldl (sgI l key row) ([], b) = x := by
  unfold sgT at h
  rwa [List.take_length] at h

theorem nr_n {d : Df} {k : Nat} {rows : List (List Vl)} {kd : Int} {t : Int} {row : List Vl} {out : List (List Vl)} {put : Bool} (h4 : ¬ kd = 4) (hrw : ∀ j (hj : j < rows.length), RwI d k rows j hj) (h : sgT (ppN d) (pkR (ppN d) row) row false rows rows.length = (out, put)) : nrN d rows ⟨kd, t, row⟩ = fnS row (out, put) := by
  rw [nrN_n (o := ⟨kd, t, row⟩) h4, ← seIS (tb_srt hrw), ← sgT_all h]
  rfl

theorem nr_4 {d : Df} {k : Nat} {rows : List (List Vl)} {t : Int} {row : List Vl} {out : List (List Vl)} {put : Bool} {j : Nat} (hrw : ∀ j (hj : j < rows.length), RwI d k rows j hj) (ha : atN (ppN d) rows row = j) (h : sgT (ppN d) row row true rows rows.length = (out, put)) : nrN d rows ⟨4, t, row⟩ = out := by
  obtain ⟨hj, e⟩ := atN_mem ha
  have h2 := sgT_all h
  rw [sgI_del hj e (fun i hi q => key_inj hrw hi hj (q.trans e.symm))] at h2
  rw [nrN_4 (o := ⟨4, t, row⟩) rfl ha]
  exact congrArg Prod.fst h2

theorem th_4 {t : Int} {row : List Vl} : thN ⟨4, t, row⟩ false = 6 := by
  unfold thN
  rw [if_neg (by simp), if_pos (by simp)]

theorem sgI_z {l : List Prt} {key row r : List Vl} {out : List (List Vl)} (h : ¬ pkR l r = key) (h2 : lkK l key (pkR l r) = true) : sgI l key row (out, false) r = (out ++ [row] ++ [r], true) := by
  rw [sgI_y h h2]; simp

theorem sl_set {m : Tbs} {k : Nat} {y : List (List Vl)} : Cell.sl false (List.length m) 1 (cs false (m.set k y)) = slE false (m.set k y) := by
  show _ = Cell.sl false (m.set k y).length 1 _
  rw [List.length_set]

theorem cs_wset {m : Tbs} {k : Nat} {y : List (List Vl)} : ((cs false (m.set k y)).drop 0).take (m.length * 1) = cs false (m.set k y) := by
  have h := cs_whole (o := false) (xs := m.set k y)
  rwa [List.length_set] at h

theorem z_one {t : List (List Vl)} : zMdb [t] = 1 + zTab t := rfl

theorem z_tab {m : Tbs} {k : Nat} (h : k < m.length) : zTab m[k] ≤ zMdb m := by
  have h3 := cnt_mem (c := zTab) (List.getElem_mem h)
  have h0 : zMdb m = m.length + cnt zTab m := rfl
  omega

attribute [local irreducible] isN thN kyD

set_option maxHeartbeats 2000000 in
set_option maxRecDepth 100000 in
theorem t_impl_copyMdbG {m : Tbs} (hm : zMdb m ≤ 2000000 := by first | assumption | omega | (simp; done) | (simp; omega)) : T 46 [.val true [.ref 1 0 m.length 1], .ex (cs false m)] [(true, [slE false m])] [none, some (cs false m)] := by
  refine w_call md [[1]] Tryz.func46 rfl ?_
  obtain ⟨z1, z2⟩ := zMdb_b hm
  repeat' ((conv => whnf); (first | refine k0 ?_ | refine jA fun _ => ?_ | refine jB fun _ => ?_ | refine kC (fun _ => ?_) fun _ => ?_ | (apply cx44; refine kl tx44 ?_) | refine jst ?_ | exact ⟨rfl, rfl⟩ | exact jV | fail))
  conv => whnf
  refine loopk (ι := Nat) (fun i => i ≤ m.length) (fun i => m.length - i) (0) [2, 3, 11] (fun i => [(1, .v false [.ptr 2 0]), (10, .v false [.ref 1 0 m.length 1]), (12, .v false [i6 i])]) [none, some fun _ => some (true, cs false m), some fun _ => some (true, [.ref 1 0 m.length 1]), none, some fun i => some (true, [.ref 5 0 i 1]), some fun i => nE (m.take i)] ?_
  refine ⟨by omega, ?_, fun u hi => ?_⟩
  · exact (w_nilN 4 1 [] []).trans (jw [2, 4])
  · repeat' ((conv => whnf); (first | refine k0 ?_ | (apply cx44; refine kl tx44 ?_) | refine jst ?_ | exact ⟨rfl, rfl⟩ | exact jV | fail))
    conv => whnf
    refine ⟨fun hlt => ?_, fun hge => ?_⟩
    · have hi2 : u < m.length := by omega
      obtain ⟨z3, z4⟩ := z2 u hi2
      repeat' ((conv => whnf); (first | refine k0 ?_ | refine jA fun _ => ?_ | refine jB fun _ => ?_ | refine kC (fun _ => ?_) fun _ => ?_ | (apply cx44; refine kl tx44 ?_) | refine jst ?_ | exact ⟨rfl, rfl⟩ | exact jV | fail))
      conv => whnf
      refine loopk (ι := Nat) (fun i => i ≤ m[u].length) (fun i => m[u].length - i) (0) [2, 3, 6, 11, 12, 17, 18] (fun i => [(1, .v false [.ptr 2 0]), (10, .v false [.ref 1 0 m.length 1]), (19, .v false [i6 i])]) [none, some fun _ => some (true, cs false m), some fun _ => some (true, [.ref 1 0 m.length 1]), none, some fun _ => some (true, [.ref 5 0 u 1]), some fun _ => nE (m.take u), none, some fun i => some (true, [.ref 8 0 i 1]), some fun i => nE (m[u].take i)] ?_
      refine ⟨by omega, ?_, fun i hi => ?_⟩
      · exact (w_nilN 7 1 [] []).trans (jw [2, 4, 7])
      · repeat' ((conv => whnf); (first | refine k0 ?_ | (apply cx44; refine kl tx44 ?_) | refine jst ?_ | exact ⟨rfl, rfl⟩ | exact jV | fail))
        conv => whnf
        refine ⟨fun hlt2 => ?_, fun hge2 => ?_⟩
        · have hi3 : i < m[u].length := by omega
          have hz := z4 i hi3
          repeat' ((conv => whnf); (first | (apply cx44; refine kl (tx44 (r := m[u][i])) ?_) | refine Exists.intro _ (Exists.intro _ (And.intro rfl (And.intro ⟨by simp <;> omega, bgb (by omega), bg (by omega)⟩ (apR (xs := m[u].take i) ?_)))) | refine k0 ?_ | refine jA fun _ => ?_ | refine jB fun _ => ?_ | refine kC (fun _ => ?_) fun _ => ?_ | (apply cx44; refine kl tx44 ?_) | refine jst ?_ | exact ⟨rfl, rfl⟩ | exact jV | fail))
          refine ⟨⟨i + 1, by omega⟩, by simp only; omega, (w_inE 89 57 (cs true (m[u].take i)) m[u][i] [] m[u][i].length 3 (tk1 hi3 rfl)).trans ?_⟩
          exact jw [2, 4, 7]
        · obtain rfl : i = m[u].length := by omega
          repeat' ((conv => whnf); (first | refine Exists.intro _ (Exists.intro _ (And.intro rfl (And.intro ⟨by simp <;> omega, bgb (by omega), bg (by omega)⟩ (apR (xs := m.take u) ?_)))) | refine k0 ?_ | refine jA fun _ => ?_ | refine jB fun _ => ?_ | refine kC (fun _ => ?_) fun _ => ?_ | (apply cx44; refine kl tx44 ?_) | refine jst ?_ | exact ⟨rfl, rfl⟩ | exact jV | fail))
          refine ⟨⟨u + 1, by omega⟩, by simp only; omega, (w_inE 10 8 (cs true (m.take u)) (m[u].take m[u].length) [] m[u].length 1 (cs1 := cs true (m.take (u + 1))) (by rw [List.take_length]; exact tk1 hi2 rfl)).trans ?_⟩
          exact jw [2, 4]
    · obtain rfl : u = m.length := by omega
      repeat' ((conv => whnf); (first | refine bstep (w_frz 5 (m.take m.length)) ?_ | refine ⟨snc, cs false m, (by rw [List.take_length]; exact cs_whole), ?_⟩ | refine k0 ?_ | refine jA fun _ => ?_ | refine jB fun _ => ?_ | refine kC (fun _ => ?_) fun _ => ?_ | (apply cx44; refine kl tx44 ?_) | refine jst ?_ | exact ⟨rfl, rfl⟩ | exact jV | fail))

def md2 : FuncId → List Mode
  | 46 => [.str]
  | f => md f

set_option maxHeartbeats 2000000 in
set_option maxRecDepth 100000 in
theorem tx47 {s : List Df} {m : Tbs} {kd t : Int} {row : List Vl} (hmo : moS s m = true := by first | assumption | omega | (simp; done) | (simp; omega)) (hkd : inB kd 1 4 = true := by first | assumption | omega | (simp; done) | (simp; omega)) (hs : zSc s ≤ 2000000 := by first | assumption | omega | (simp; done) | (simp; omega)) (hm : zMdb m + zRow row ≤ 1900000 := by first | assumption | omega | (simp; done) | (simp; omega)) : T 47 [aE s, .val true [slE false m], .val true [i6 kd, i6 t, slE false row]] [(true, [slE false (apN s m ⟨kd, t, row⟩).1]), vI (apN s m ⟨kd, t, row⟩).2] [none, none, none] := by
  refine w_call md2 [[1], []] Tryz.func47 rfl ?_
  obtain ⟨q1, q2⟩ := zSc_b hs
  have hm2 : zMdb m ≤ 2000000 := by omega
  obtain ⟨z1, z2⟩ := zMdb_b hm2
  have hr : RvB row := RvB.of (by omega)
  have hrl := hr.1
  have hf := mo_fb hmo
  have hml := mo_len hmo
  have hI := tx80 (s := s) (kd := kd) (t := t) (row := row)
  by_cases ht : inB t 0 ((s.length : Int) - 1) = true
  · have hb := inB_iff.1 ht
    obtain ⟨k, rfl⟩ : ∃ k : Nat, t = k := ⟨t.toNat, by omega⟩
    have h2 : k < s.length := by omega
    have h3 : k < m.length := by omega
    have hd := q2 k h2
    have hcd := cd_fb hf h2
    have hrw := mo_rw hmo h2 h3
    have hpl := ppN_len (d := s[k])
    obtain ⟨z3, z4⟩ := z2 k h3
    rw [ofN_y h2] at hI
    by_cases c1 : ofT s[k] k ⟨kd, k, row⟩ = 0
    · rw [c1] at hI
      have hK := tx81 (s := s) (kd := kd) (k := k) (row := row)
      obtain ⟨key, hkey⟩ : ∃ key, kyD s[k] ⟨kd, k, row⟩ = key := ⟨_, rfl⟩
      have hkl : key.length ≤ 2000000 := by
        by_cases h4 : kd = 4
        · rw [← hkey, kyD_4 (o := ⟨kd, k, row⟩) h4]; exact hrl
        · rw [← hkey, kyD_n (o := ⟨kd, k, row⟩) h4, pkR_len]; omega
      rw [hkey] at hK
      have hA := tx43 (s := s) (m := m) (t := k) (key := key)
      obtain ⟨a, ha⟩ : ∃ a, atN (ppN s[k]) m[k] key = a := ⟨_, rfl⟩
      rw [ha] at hA
      have hat : ∀ i (hi : i < m[k].length), ((i : Nat) : Int) = a ↔ pkR (ppN s[k]) m[k][i] = key := fun i hi => by
        rw [← ha]; exact at_iff hrw hi
      have hab : -1 ≤ a ∧ a ≤ 2000000 := by
        by_cases hn : 0 ≤ a
        · obtain ⟨j, rfl⟩ : ∃ j : Nat, a = j := ⟨a.toNat, by omega⟩
          have := atN_lt ha
          omega
        · have := atN_nn (plan := ppN s[k]) (rows := m[k]) (key := key) (by rw [ha]; exact hn)
          omega
      have hkc : ∀ b, T 82 [.val true [i6 kd, i6 k, slE false row], aB b] [vI (thN ⟨kd, k, row⟩ b)] [none, none] := fun b => tx82 (t := k) (row := row)
      by_cases hn : 0 ≤ a
      · skip
        have his := isN_y (d := s[k]) (rows := m[k]) (o := ⟨kd, k, row⟩) (by rw [hkey]; exact ha) hn
        have hT := hkc true
        by_cases c2 : thN ⟨kd, k, row⟩ true = 0
        · rw [c2] at hT
          have c3 : thN ⟨kd, k, row⟩ (isN s[k] m[k] ⟨kd, k, row⟩) = 0 := by rw [his]; exact c2
          by_cases h4 : kd = 4
          · subst h4
            have hky : row = key := by rw [← hkey, kyD_4 rfl]
            subst hky
            repeat' ((conv => whnf); (first | (apply cx80; refine kl (hI) ?_) | (apply cx81; refine kl (hK) ?_) | (apply cx43; refine kl (hA) ?_) | (apply cx82; refine kl (hT) ?_) | refine And.intro ⟨by omega, by omega⟩ (Exists.intro _ (And.intro (rdI (i := k) (by omega) (by omega)) ?_)) | (apply cx19; refine kl (tx19 (d := s[k])) ?_) | refine k0 ?_ | refine jA fun _ => ?_ | refine jB fun _ => ?_ | refine kC (fun _ => ?_) fun _ => ?_ | (apply cx80; refine kl tx80 ?_) | (apply cx81; refine kl tx81 ?_) | (apply cx43; refine kl tx43 ?_) | (apply cx82; refine kl tx82 ?_) | (apply cx19; refine kl tx19 ?_) | (apply cx83; refine kl tx83 ?_) | (apply cx18; refine kl tx18 ?_) | (apply cx84; refine kl tx84 ?_) | (apply cx44; refine kl tx44 ?_) | (apply cx46; refine kl tx46 ?_) | refine jst ?_ | exact ⟨rfl, rfl⟩ | exact jV | fail))
            conv => whnf
            refine loopk (ι := Nat × List (List Vl) × Bool) (fun i => (i.1 ≤ m[k].length ∧ sgT (ppN s[k]) row row true m[k] i.1 = i.2) ∧ i.2.2 = true) (fun i => m[k].length - i.1) (0, [], true) [0, 4, 5, 6, 9, 12, 55, 56] (fun i => [(11, .v false [.ref 7 0 i.2.1.length 1]), (13, .v false [b1 i.2.2]), (57, .v false [i6 i.1])]) [none, none, none, none, none, none, none, some fun i => some (true, cs false i.2.1)] ?_
            refine ⟨⟨⟨Nat.zero_le _, rfl⟩, rfl⟩, ?_, fun z hz => ?_⟩
            · exact (w_virt 11 1 rfl rfl).trans (jw [])
            · obtain ⟨i, out, put⟩ := z
              obtain ⟨⟨hi, hx⟩, hp⟩ := hz
              simp only at hi hx hp
              have hol := sgT_len (l := (ppN s[k])) (key := row) (row := row) (b := true) hi
              rw [hx] at hol
              simp only at hol
              subst hp
              repeat' ((conv => whnf); (first | refine k0 ?_ | (apply cx80; refine kl tx80 ?_) | (apply cx81; refine kl tx81 ?_) | (apply cx43; refine kl tx43 ?_) | (apply cx82; refine kl tx82 ?_) | (apply cx19; refine kl tx19 ?_) | (apply cx83; refine kl tx83 ?_) | (apply cx18; refine kl tx18 ?_) | (apply cx84; refine kl tx84 ?_) | (apply cx44; refine kl tx44 ?_) | (apply cx46; refine kl tx46 ?_) | refine jst ?_ | exact ⟨rfl, rfl⟩ | exact jV | fail))
              conv => whnf
              refine ⟨fun hlt => ?_, fun hge => ?_⟩
              · have hi2 : i < m[k].length := by omega
                by_cases e : pkR (ppN s[k]) m[k][i] = row
                · have ea := (hat i hi2).2 e
                  repeat' ((conv => whnf); (first | refine k0 ?_ | refine jA fun _ => ?_ | refine jB fun _ => ?_ | refine kC (fun _ => ?_) fun _ => ?_ | (apply cx80; refine kl tx80 ?_) | (apply cx81; refine kl tx81 ?_) | (apply cx43; refine kl tx43 ?_) | (apply cx82; refine kl tx82 ?_) | (apply cx19; refine kl tx19 ?_) | (apply cx83; refine kl tx83 ?_) | (apply cx18; refine kl tx18 ?_) | (apply cx84; refine kl tx84 ?_) | (apply cx44; refine kl tx44 ?_) | (apply cx46; refine kl tx46 ?_) | refine jst ?_ | exact ⟨rfl, rfl⟩ | exact jV | fail))
                  refine ⟨⟨(i + 1, out, true), ⟨⟨by simp only; omega, sgT_suc hi2 hx (sgI_e e)⟩, rfl⟩⟩, by simp only; omega, ?_⟩
                  exact jw []
                · have ea : ¬ ((i : Nat) : Int) = a := fun q => e ((hat i hi2).1 q)
                  repeat' ((conv => whnf); (first | refine jap (N := cs false ([m[k][i]] : List (List Vl))) (apE (o := false) (xs := out) ?_) | refine k0 ?_ | refine jA fun _ => ?_ | refine jB fun _ => ?_ | refine kC (fun _ => ?_) fun _ => ?_ | (apply cx80; refine kl tx80 ?_) | (apply cx81; refine kl tx81 ?_) | (apply cx43; refine kl tx43 ?_) | (apply cx82; refine kl tx82 ?_) | (apply cx19; refine kl tx19 ?_) | (apply cx83; refine kl tx83 ?_) | (apply cx18; refine kl tx18 ?_) | (apply cx84; refine kl tx84 ?_) | (apply cx44; refine kl tx44 ?_) | (apply cx46; refine kl tx46 ?_) | refine jst ?_ | exact ⟨rfl, rfl⟩ | exact jV | fail))
                  refine ⟨⟨(i + 1, out ++ [m[k][i]], true), ⟨⟨by simp only; omega, sgT_suc hi2 hx (sgI_p e)⟩, rfl⟩⟩, by simp only; omega, ?_⟩
                  exact jw []
              · obtain rfl : i = m[k].length := by omega
                obtain ⟨j, hj⟩ : ∃ j : Nat, a = j := ⟨a.toNat, by omega⟩
                have hnr := nr_4 (t := k) hrw (ha.trans hj) hx
                have hac : acT s[k] k m[k] ⟨4, k, row⟩ = 0 := acT_0 c1 c3 (.inl rfl)
                have hzz := nrN_z (d := s[k]) (rows := m[k]) (o := ⟨4, k, row⟩)
                rw [hnr] at hzz
                have hzt := z_tab h3
                have hzo : zMdb [out] ≤ 2000000 := by rw [z_one]; simp only at hzz; omega
                repeat' ((conv => whnf); (first | refine bstep (w_tmpF false 11 7 out out.length 1) ?_ | (apply cx46; refine kl ((t_impl_copyMdbG (m := [out]))) ?_) | (apply cx46; refine kl (tx46 (m := m)) ?_) | refine And.intro ⟨by omega, by omega⟩ (Exists.intro _ (And.intro (rdI (i := k) (by omega) (by omega)) ?_)) | refine And.intro ⟨rfl, rfl, rfl⟩ ?_ | refine And.intro ⟨by first | omega | (simp; done), by first | omega | (simp; done)⟩ (Exists.intro [slE false (out)] (And.intro rfl ?_)) | refine ko (ptTab h3) ?_ | refine bstep (w_freeze 8 rfl (csTab h3)) ?_ | refine ⟨snc, cs false (m.set k (out)), cs_wset, ?_⟩ | refine k0 ?_ | refine jA fun _ => ?_ | refine jB fun _ => ?_ | refine kC (fun _ => ?_) fun _ => ?_ | (apply cx80; refine kl tx80 ?_) | (apply cx81; refine kl tx81 ?_) | (apply cx43; refine kl tx43 ?_) | (apply cx82; refine kl tx82 ?_) | (apply cx19; refine kl tx19 ?_) | (apply cx83; refine kl tx83 ?_) | (apply cx18; refine kl tx18 ?_) | (apply cx84; refine kl tx84 ?_) | (apply cx44; refine kl tx44 ?_) | (apply cx46; refine kl tx46 ?_) | refine jst ?_ | exact ⟨rfl, rfl⟩ | exact jV | fail))
                exact ⟨by rw [apN_y ⟨hmo, hkd⟩ h2 h3 hac, hnr]; exact congrArg (fun c => [(true, [c]), vI 0]) sl_set, rfl⟩
          · have hky : key = pkR (ppN s[k]) row := by rw [← hkey, kyD_n (o := ⟨kd, k, row⟩) h4]
            subst hky
            repeat' ((conv => whnf); (first | (apply cx80; refine kl (hI) ?_) | (apply cx81; refine kl (hK) ?_) | (apply cx43; refine kl (hA) ?_) | (apply cx82; refine kl (hT) ?_) | refine And.intro ⟨by omega, by omega⟩ (Exists.intro _ (And.intro (rdI (i := k) (by omega) (by omega)) ?_)) | (apply cx19; refine kl (tx19 (d := s[k])) ?_) | refine k0 ?_ | refine jA fun _ => ?_ | refine jB fun _ => ?_ | refine kC (fun _ => ?_) fun _ => ?_ | (apply cx80; refine kl tx80 ?_) | (apply cx81; refine kl tx81 ?_) | (apply cx43; refine kl tx43 ?_) | (apply cx82; refine kl tx82 ?_) | (apply cx19; refine kl tx19 ?_) | (apply cx83; refine kl tx83 ?_) | (apply cx18; refine kl tx18 ?_) | (apply cx84; refine kl tx84 ?_) | (apply cx44; refine kl tx44 ?_) | (apply cx46; refine kl tx46 ?_) | refine jst ?_ | exact ⟨rfl, rfl⟩ | exact jV | fail))
            conv => whnf
            refine loopk (ι := Nat × List (List Vl) × Bool) (fun i => (i.1 ≤ m[k].length ∧ sgT (ppN s[k]) (pkR (ppN s[k]) row) row false m[k] i.1 = i.2) ∧ ∀ j (h : j < m[k].length), j < i.1 → pkR (ppN s[k]) m[k][j] ≠ pkR (ppN s[k]) row → clN2 s[k] m[k][j] row = false) (fun i => m[k].length - i.1) (0, [], false) [0, 4, 5, 6, 9, 12, 55, 56] (fun i => [(11, .v false [.ref 7 0 i.2.1.length 1]), (13, .v false [b1 i.2.2]), (57, .v false [i6 i.1])]) [none, none, none, none, none, none, none, some fun i => some (true, cs false i.2.1)] ?_
            refine ⟨⟨⟨Nat.zero_le _, rfl⟩, by intros; omega⟩, ?_, fun z hz => ?_⟩
            · exact (w_virt 11 1 rfl rfl).trans (jw [])
            · obtain ⟨i, out, put⟩ := z
              obtain ⟨⟨hi, hx⟩, hp⟩ := hz
              simp only at hi hx hp
              have hol := sgT_len (l := (ppN s[k])) (key := (pkR (ppN s[k]) row)) (row := row) (b := false) hi
              rw [hx] at hol
              simp only at hol
              repeat' ((conv => whnf); (first | refine k0 ?_ | (apply cx80; refine kl tx80 ?_) | (apply cx81; refine kl tx81 ?_) | (apply cx43; refine kl tx43 ?_) | (apply cx82; refine kl tx82 ?_) | (apply cx19; refine kl tx19 ?_) | (apply cx83; refine kl tx83 ?_) | (apply cx18; refine kl tx18 ?_) | (apply cx84; refine kl tx84 ?_) | (apply cx44; refine kl tx44 ?_) | (apply cx46; refine kl tx46 ?_) | refine jst ?_ | exact ⟨rfl, rfl⟩ | exact jV | fail))
              conv => whnf
              refine ⟨fun hlt => ?_, fun hge => ?_⟩
              · have hi2 : i < m[k].length := by omega
                have hzr := z4 i hi2
                have lp1 := pkR_len (l := (ppN s[k])) (r := row)
                have lp2 := pkR_len (l := (ppN s[k])) (r := m[k][i])
                by_cases e : pkR (ppN s[k]) m[k][i] = pkR (ppN s[k]) row
                · have ea := (hat i hi2).2 e
                  repeat' ((conv => whnf); (first | refine k0 ?_ | refine jA fun _ => ?_ | refine jB fun _ => ?_ | refine kC (fun _ => ?_) fun _ => ?_ | (apply cx80; refine kl tx80 ?_) | (apply cx81; refine kl tx81 ?_) | (apply cx43; refine kl tx43 ?_) | (apply cx82; refine kl tx82 ?_) | (apply cx19; refine kl tx19 ?_) | (apply cx83; refine kl tx83 ?_) | (apply cx18; refine kl tx18 ?_) | (apply cx84; refine kl tx84 ?_) | (apply cx44; refine kl tx44 ?_) | (apply cx46; refine kl tx46 ?_) | refine jst ?_ | exact ⟨rfl, rfl⟩ | exact jV | fail))
                  refine ⟨⟨(i + 1, out, put), ⟨⟨by simp only; omega, sgT_suc hi2 hx (sgI_e e)⟩, all_suc hp hi2 (fun q => absurd e q)⟩⟩, by simp only; omega, ?_⟩
                  exact jw []
                · have ea : ¬ ((i : Nat) : Int) = a := fun q => e ((hat i hi2).1 q)
                  have hC : T 83 [.val true (dfC false s[k]), aE m[k][i], aE row] [vB (clN2 s[k] m[k][i] row)] [none, none, none] := tx83 hcd
                  cases e2 : clN2 s[k] m[k][i] row
                  · rw [e2] at hC
                    cases put
                    · have hL : T 84 [aE (ppN s[k]), aE (pkR (ppN s[k]) row), aE (pkR (ppN s[k]) m[k][i])] [vB (lkK (ppN s[k]) (pkR (ppN s[k]) row) (pkR (ppN s[k]) m[k][i]))] [none, none, none] := tx84
                      cases e3 : lkK (ppN s[k]) (pkR (ppN s[k]) row) (pkR (ppN s[k]) m[k][i])
                      · rw [e3] at hL
                        repeat' ((conv => whnf); (first | refine And.intro ⟨by omega, by omega⟩ (Exists.intro _ (And.intro (rdI (i := k) (by omega) (by omega)) ?_)) | (apply cx83; refine kl (hC) ?_) | (apply cx84; refine kl (hL) ?_) | (apply cx18; refine kl (tx18 (l := (ppN s[k])) (r := row)) ?_) | (apply cx18; refine kl (tx18 (l := (ppN s[k])) (r := m[k][i])) ?_) | refine jap (N := cs false ([m[k][i]] : List (List Vl))) (apE (o := false) (xs := out) ?_) | refine k0 ?_ | refine jA fun _ => ?_ | refine jB fun _ => ?_ | refine kC (fun _ => ?_) fun _ => ?_ | (apply cx80; refine kl tx80 ?_) | (apply cx81; refine kl tx81 ?_) | (apply cx43; refine kl tx43 ?_) | (apply cx82; refine kl tx82 ?_) | (apply cx19; refine kl tx19 ?_) | (apply cx83; refine kl tx83 ?_) | (apply cx18; refine kl tx18 ?_) | (apply cx84; refine kl tx84 ?_) | (apply cx44; refine kl tx44 ?_) | (apply cx46; refine kl tx46 ?_) | refine jst ?_ | exact ⟨rfl, rfl⟩ | exact jV | fail))
                        refine ⟨⟨(i + 1, out ++ [m[k][i]], false), ⟨⟨by simp only; omega, sgT_suc hi2 hx (sgI_n e e3)⟩, all_suc hp hi2 (fun _ => e2)⟩⟩, by simp only; omega, ?_⟩
                        exact jw []
                      · rw [e3] at hL
                        repeat' ((conv => whnf); (first | refine And.intro ⟨by omega, by omega⟩ (Exists.intro _ (And.intro (rdI (i := k) (by omega) (by omega)) ?_)) | (apply cx83; refine kl (hC) ?_) | (apply cx84; refine kl (hL) ?_) | (apply cx18; refine kl (tx18 (l := (ppN s[k])) (r := row)) ?_) | (apply cx18; refine kl (tx18 (l := (ppN s[k])) (r := m[k][i])) ?_) | (apply cx44; refine kl (tx44 (r := row)) ?_) | refine jap (m := 1) (N := [.ref 10 0 row.length 3]) (apR (o := false) (xs := out) ?_) | refine bstep (w_inF true 12 10 (cs false out) row [] row.length 3 (cs1 := cs false (out ++ [row])) cs_snF) ?_ | refine jap (N := cs false ([m[k][i]] : List (List Vl))) (apE (o := false) (xs := out ++ [row]) ?_) | refine k0 ?_ | refine jA fun _ => ?_ | refine jB fun _ => ?_ | refine kC (fun _ => ?_) fun _ => ?_ | (apply cx80; refine kl tx80 ?_) | (apply cx81; refine kl tx81 ?_) | (apply cx43; refine kl tx43 ?_) | (apply cx82; refine kl tx82 ?_) | (apply cx19; refine kl tx19 ?_) | (apply cx83; refine kl tx83 ?_) | (apply cx18; refine kl tx18 ?_) | (apply cx84; refine kl tx84 ?_) | (apply cx44; refine kl tx44 ?_) | (apply cx46; refine kl tx46 ?_) | refine jst ?_ | exact ⟨rfl, rfl⟩ | exact jV | fail))
                        refine ⟨⟨(i + 1, out ++ [row] ++ [m[k][i]], true), ⟨⟨by simp only; omega, sgT_suc hi2 hx (sgI_z e e3)⟩, all_suc hp hi2 (fun _ => e2)⟩⟩, by simp only; omega, ?_⟩
                        exact jw []
                    · repeat' ((conv => whnf); (first | refine And.intro ⟨by omega, by omega⟩ (Exists.intro _ (And.intro (rdI (i := k) (by omega) (by omega)) ?_)) | (apply cx83; refine kl (hC) ?_) | refine jap (N := cs false ([m[k][i]] : List (List Vl))) (apE (o := false) (xs := out) ?_) | refine k0 ?_ | refine jA fun _ => ?_ | refine jB fun _ => ?_ | refine kC (fun _ => ?_) fun _ => ?_ | (apply cx80; refine kl tx80 ?_) | (apply cx81; refine kl tx81 ?_) | (apply cx43; refine kl tx43 ?_) | (apply cx82; refine kl tx82 ?_) | (apply cx19; refine kl tx19 ?_) | (apply cx83; refine kl tx83 ?_) | (apply cx18; refine kl tx18 ?_) | (apply cx84; refine kl tx84 ?_) | (apply cx44; refine kl tx44 ?_) | (apply cx46; refine kl tx46 ?_) | refine jst ?_ | exact ⟨rfl, rfl⟩ | exact jV | fail))
                      refine ⟨⟨(i + 1, out ++ [m[k][i]], true), ⟨⟨by simp only; omega, sgT_suc hi2 hx (sgI_p e)⟩, all_suc hp hi2 (fun _ => e2)⟩⟩, by simp only; omega, ?_⟩
                      exact jw []
                  · rw [e2] at hC
                    have h5 := acT_5 c1 c3 h4 (tk_y hi2 e e2)
                    repeat' ((conv => whnf); (first | refine And.intro ⟨by omega, by omega⟩ (Exists.intro _ (And.intro (rdI (i := k) (by omega) (by omega)) ?_)) | (apply cx83; refine kl (hC) ?_) | refine k0 ?_ | refine jA fun _ => ?_ | refine jB fun _ => ?_ | refine kC (fun _ => ?_) fun _ => ?_ | (apply cx80; refine kl tx80 ?_) | (apply cx81; refine kl tx81 ?_) | (apply cx43; refine kl tx43 ?_) | (apply cx82; refine kl tx82 ?_) | (apply cx19; refine kl tx19 ?_) | (apply cx83; refine kl tx83 ?_) | (apply cx18; refine kl tx18 ?_) | (apply cx84; refine kl tx84 ?_) | (apply cx44; refine kl tx44 ?_) | (apply cx46; refine kl tx46 ?_) | refine jst ?_ | exact ⟨rfl, rfl⟩ | exact jV | fail))
                    exact ⟨by rw [apN_e ⟨hmo, hkd⟩ h2 h3 (by rw [h5]; decide), h5]; rfl, rfl⟩
              · obtain rfl : i = m[k].length := by omega
                have hnr := nr_n (t := k) h4 hrw hx
                have htk : tkN s[k] m[k] row = false := tk_n (fun j hj q => hp j hj hj q)
                cases put
                · have hnr : nrN s[k] m[k] ⟨kd, k, row⟩ = out ++ [row] := hnr
                  have hac : acT s[k] k m[k] ⟨kd, k, row⟩ = 0 := acT_0 c1 c3 (.inr htk)
                  have hzz := nrN_z (d := s[k]) (rows := m[k]) (o := ⟨kd, k, row⟩)
                  rw [hnr] at hzz
                  have hzt := z_tab h3
                  have hzo : zMdb [out ++ [row]] ≤ 2000000 := by rw [z_one]; simp only at hzz; omega
                  repeat' ((conv => whnf); (first | (apply cx44; refine kl (tx44 (r := row)) ?_) | refine jap (m := 1) (N := [.ref 8 0 row.length 3]) (apR (o := false) (xs := out) ?_) | refine bstep (w_inF true 10 8 (cs false out) row [] row.length 3 (cs1 := cs false (out ++ [row])) cs_snF) ?_ | refine bstep (w_tmpF false 11 10 (out ++ [row]) (out.length + 1) 1) ?_ | (apply cx46; refine kl ((t_impl_copyMdbG (m := [out ++ [row]]))) ?_) | (apply cx46; refine kl (tx46 (m := m)) ?_) | refine And.intro ⟨by omega, by omega⟩ (Exists.intro _ (And.intro (rdI (i := k) (by omega) (by omega)) ?_)) | refine And.intro ⟨rfl, rfl, rfl⟩ ?_ | refine And.intro ⟨by first | omega | (simp; done), by first | omega | (simp; done)⟩ (Exists.intro [slE false (out ++ [row])] (And.intro rfl ?_)) | refine ko (ptTab h3) ?_ | refine bstep (w_freeze 11 rfl (csTab h3)) ?_ | refine ⟨snc, cs false (m.set k (out ++ [row])), cs_wset, ?_⟩ | refine k0 ?_ | refine jA fun _ => ?_ | refine jB fun _ => ?_ | refine kC (fun _ => ?_) fun _ => ?_ | (apply cx80; refine kl tx80 ?_) | (apply cx81; refine kl tx81 ?_) | (apply cx43; refine kl tx43 ?_) | (apply cx82; refine kl tx82 ?_) | (apply cx19; refine kl tx19 ?_) | (apply cx83; refine kl tx83 ?_) | (apply cx18; refine kl tx18 ?_) | (apply cx84; refine kl tx84 ?_) | (apply cx44; refine kl tx44 ?_) | (apply cx46; refine kl tx46 ?_) | refine jst ?_ | exact ⟨rfl, rfl⟩ | exact jV | fail))
                  exact ⟨by rw [apN_y ⟨hmo, hkd⟩ h2 h3 hac, hnr]; exact congrArg (fun c => [(true, [c]), vI 0]) sl_set, rfl⟩
                · have hnr : nrN s[k] m[k] ⟨kd, k, row⟩ = out := hnr
                  have hac : acT s[k] k m[k] ⟨kd, k, row⟩ = 0 := acT_0 c1 c3 (.inr htk)
                  have hzz := nrN_z (d := s[k]) (rows := m[k]) (o := ⟨kd, k, row⟩)
                  rw [hnr] at hzz
                  have hzt := z_tab h3
                  have hzo : zMdb [out] ≤ 2000000 := by rw [z_one]; simp only at hzz; omega
                  repeat' ((conv => whnf); (first | refine bstep (w_tmpF false 11 7 out out.length 1) ?_ | (apply cx46; refine kl ((t_impl_copyMdbG (m := [out]))) ?_) | (apply cx46; refine kl (tx46 (m := m)) ?_) | refine And.intro ⟨by omega, by omega⟩ (Exists.intro _ (And.intro (rdI (i := k) (by omega) (by omega)) ?_)) | refine And.intro ⟨rfl, rfl, rfl⟩ ?_ | refine And.intro ⟨by first | omega | (simp; done), by first | omega | (simp; done)⟩ (Exists.intro [slE false (out)] (And.intro rfl ?_)) | refine ko (ptTab h3) ?_ | refine bstep (w_freeze 8 rfl (csTab h3)) ?_ | refine ⟨snc, cs false (m.set k (out)), cs_wset, ?_⟩ | refine k0 ?_ | refine jA fun _ => ?_ | refine jB fun _ => ?_ | refine kC (fun _ => ?_) fun _ => ?_ | (apply cx80; refine kl tx80 ?_) | (apply cx81; refine kl tx81 ?_) | (apply cx43; refine kl tx43 ?_) | (apply cx82; refine kl tx82 ?_) | (apply cx19; refine kl tx19 ?_) | (apply cx83; refine kl tx83 ?_) | (apply cx18; refine kl tx18 ?_) | (apply cx84; refine kl tx84 ?_) | (apply cx44; refine kl tx44 ?_) | (apply cx46; refine kl tx46 ?_) | refine jst ?_ | exact ⟨rfl, rfl⟩ | exact jV | fail))
                  exact ⟨by rw [apN_y ⟨hmo, hkd⟩ h2 h3 hac, hnr]; exact congrArg (fun c => [(true, [c]), vI 0]) sl_set, rfl⟩
        · rw [apN_e ⟨hmo, hkd⟩ h2 h3 (by rw [acT_t c1 (by rw [his]; exact c2), his]; exact c2), acT_t c1 (by rw [his]; exact c2), his]
          generalize thN ⟨kd, k, row⟩ true = c at *
          repeat' ((conv => whnf); (first | (apply cx80; refine kl (hI) ?_) | (apply cx81; refine kl (hK) ?_) | (apply cx43; refine kl (hA) ?_) | (apply cx82; refine kl (hT) ?_) | refine And.intro ⟨by omega, by omega⟩ (Exists.intro _ (And.intro (rdI (i := k) (by omega) (by omega)) ?_)) | (apply cx19; refine kl (tx19 (d := s[k])) ?_) | refine k0 ?_ | refine jA fun _ => ?_ | refine jB fun _ => ?_ | refine kC (fun _ => ?_) fun _ => ?_ | (apply cx80; refine kl tx80 ?_) | (apply cx81; refine kl tx81 ?_) | (apply cx43; refine kl tx43 ?_) | (apply cx82; refine kl tx82 ?_) | (apply cx19; refine kl tx19 ?_) | (apply cx83; refine kl tx83 ?_) | (apply cx18; refine kl tx18 ?_) | (apply cx84; refine kl tx84 ?_) | (apply cx44; refine kl tx44 ?_) | (apply cx46; refine kl tx46 ?_) | refine jst ?_ | exact ⟨rfl, rfl⟩ | exact jV | fail))
      · skip
        have his := isN_n (d := s[k]) (rows := m[k]) (o := ⟨kd, k, row⟩) (by rw [hkey]; exact ha) hn
        have hT := hkc false
        by_cases c2 : thN ⟨kd, k, row⟩ false = 0
        · rw [c2] at hT
          have c3 : thN ⟨kd, k, row⟩ (isN s[k] m[k] ⟨kd, k, row⟩) = 0 := by rw [his]; exact c2
          by_cases h4 : kd = 4
          · subst h4; rw [th_4] at c2; exact absurd c2 (by decide)
          · have hky : key = pkR (ppN s[k]) row := by rw [← hkey, kyD_n (o := ⟨kd, k, row⟩) h4]
            subst hky
            repeat' ((conv => whnf); (first | (apply cx80; refine kl (hI) ?_) | (apply cx81; refine kl (hK) ?_) | (apply cx43; refine kl (hA) ?_) | (apply cx82; refine kl (hT) ?_) | refine And.intro ⟨by omega, by omega⟩ (Exists.intro _ (And.intro (rdI (i := k) (by omega) (by omega)) ?_)) | (apply cx19; refine kl (tx19 (d := s[k])) ?_) | refine k0 ?_ | refine jA fun _ => ?_ | refine jB fun _ => ?_ | refine kC (fun _ => ?_) fun _ => ?_ | (apply cx80; refine kl tx80 ?_) | (apply cx81; refine kl tx81 ?_) | (apply cx43; refine kl tx43 ?_) | (apply cx82; refine kl tx82 ?_) | (apply cx19; refine kl tx19 ?_) | (apply cx83; refine kl tx83 ?_) | (apply cx18; refine kl tx18 ?_) | (apply cx84; refine kl tx84 ?_) | (apply cx44; refine kl tx44 ?_) | (apply cx46; refine kl tx46 ?_) | refine jst ?_ | exact ⟨rfl, rfl⟩ | exact jV | fail))
            conv => whnf
            refine loopk (ι := Nat × List (List Vl) × Bool) (fun i => (i.1 ≤ m[k].length ∧ sgT (ppN s[k]) (pkR (ppN s[k]) row) row false m[k] i.1 = i.2) ∧ ∀ j (h : j < m[k].length), j < i.1 → pkR (ppN s[k]) m[k][j] ≠ pkR (ppN s[k]) row → clN2 s[k] m[k][j] row = false) (fun i => m[k].length - i.1) (0, [], false) [0, 4, 5, 6, 9, 12, 55, 56] (fun i => [(11, .v false [.ref 7 0 i.2.1.length 1]), (13, .v false [b1 i.2.2]), (57, .v false [i6 i.1])]) [none, none, none, none, none, none, none, some fun i => some (true, cs false i.2.1)] ?_
            refine ⟨⟨⟨Nat.zero_le _, rfl⟩, by intros; omega⟩, ?_, fun z hz => ?_⟩
            · exact (w_virt 11 1 rfl rfl).trans (jw [])
            · obtain ⟨i, out, put⟩ := z
              obtain ⟨⟨hi, hx⟩, hp⟩ := hz
              simp only at hi hx hp
              have hol := sgT_len (l := (ppN s[k])) (key := (pkR (ppN s[k]) row)) (row := row) (b := false) hi
              rw [hx] at hol
              simp only at hol
              repeat' ((conv => whnf); (first | refine k0 ?_ | (apply cx80; refine kl tx80 ?_) | (apply cx81; refine kl tx81 ?_) | (apply cx43; refine kl tx43 ?_) | (apply cx82; refine kl tx82 ?_) | (apply cx19; refine kl tx19 ?_) | (apply cx83; refine kl tx83 ?_) | (apply cx18; refine kl tx18 ?_) | (apply cx84; refine kl tx84 ?_) | (apply cx44; refine kl tx44 ?_) | (apply cx46; refine kl tx46 ?_) | refine jst ?_ | exact ⟨rfl, rfl⟩ | exact jV | fail))
              conv => whnf
              refine ⟨fun hlt => ?_, fun hge => ?_⟩
              · have hi2 : i < m[k].length := by omega
                have hzr := z4 i hi2
                have lp1 := pkR_len (l := (ppN s[k])) (r := row)
                have lp2 := pkR_len (l := (ppN s[k])) (r := m[k][i])
                by_cases e : pkR (ppN s[k]) m[k][i] = pkR (ppN s[k]) row
                · have ea := (hat i hi2).2 e
                  repeat' ((conv => whnf); (first | refine k0 ?_ | refine jA fun _ => ?_ | refine jB fun _ => ?_ | refine kC (fun _ => ?_) fun _ => ?_ | (apply cx80; refine kl tx80 ?_) | (apply cx81; refine kl tx81 ?_) | (apply cx43; refine kl tx43 ?_) | (apply cx82; refine kl tx82 ?_) | (apply cx19; refine kl tx19 ?_) | (apply cx83; refine kl tx83 ?_) | (apply cx18; refine kl tx18 ?_) | (apply cx84; refine kl tx84 ?_) | (apply cx44; refine kl tx44 ?_) | (apply cx46; refine kl tx46 ?_) | refine jst ?_ | exact ⟨rfl, rfl⟩ | exact jV | fail))
                  refine ⟨⟨(i + 1, out, put), ⟨⟨by simp only; omega, sgT_suc hi2 hx (sgI_e e)⟩, all_suc hp hi2 (fun q => absurd e q)⟩⟩, by simp only; omega, ?_⟩
                  exact jw []
                · have ea : ¬ ((i : Nat) : Int) = a := fun q => e ((hat i hi2).1 q)
                  have hC : T 83 [.val true (dfC false s[k]), aE m[k][i], aE row] [vB (clN2 s[k] m[k][i] row)] [none, none, none] := tx83 hcd
                  cases e2 : clN2 s[k] m[k][i] row
                  · rw [e2] at hC
                    cases put
                    · have hL : T 84 [aE (ppN s[k]), aE (pkR (ppN s[k]) row), aE (pkR (ppN s[k]) m[k][i])] [vB (lkK (ppN s[k]) (pkR (ppN s[k]) row) (pkR (ppN s[k]) m[k][i]))] [none, none, none] := tx84
                      cases e3 : lkK (ppN s[k]) (pkR (ppN s[k]) row) (pkR (ppN s[k]) m[k][i])
                      · rw [e3] at hL
                        repeat' ((conv => whnf); (first | refine And.intro ⟨by omega, by omega⟩ (Exists.intro _ (And.intro (rdI (i := k) (by omega) (by omega)) ?_)) | (apply cx83; refine kl (hC) ?_) | (apply cx84; refine kl (hL) ?_) | (apply cx18; refine kl (tx18 (l := (ppN s[k])) (r := row)) ?_) | (apply cx18; refine kl (tx18 (l := (ppN s[k])) (r := m[k][i])) ?_) | refine jap (N := cs false ([m[k][i]] : List (List Vl))) (apE (o := false) (xs := out) ?_) | refine k0 ?_ | refine jA fun _ => ?_ | refine jB fun _ => ?_ | refine kC (fun _ => ?_) fun _ => ?_ | (apply cx80; refine kl tx80 ?_) | (apply cx81; refine kl tx81 ?_) | (apply cx43; refine kl tx43 ?_) | (apply cx82; refine kl tx82 ?_) | (apply cx19; refine kl tx19 ?_) | (apply cx83; refine kl tx83 ?_) | (apply cx18; refine kl tx18 ?_) | (apply cx84; refine kl tx84 ?_) | (apply cx44; refine kl tx44 ?_) | (apply cx46; refine kl tx46 ?_) | refine jst ?_ | exact ⟨rfl, rfl⟩ | exact jV | fail))
                        refine ⟨⟨(i + 1, out ++ [m[k][i]], false), ⟨⟨by simp only; omega, sgT_suc hi2 hx (sgI_n e e3)⟩, all_suc hp hi2 (fun _ => e2)⟩⟩, by simp only; omega, ?_⟩
                        exact jw []
                      · rw [e3] at hL
                        repeat' ((conv => whnf); (first | refine And.intro ⟨by omega, by omega⟩ (Exists.intro _ (And.intro (rdI (i := k) (by omega) (by omega)) ?_)) | (apply cx83; refine kl (hC) ?_) | (apply cx84; refine kl (hL) ?_) | (apply cx18; refine kl (tx18 (l := (ppN s[k])) (r := row)) ?_) | (apply cx18; refine kl (tx18 (l := (ppN s[k])) (r := m[k][i])) ?_) | (apply cx44; refine kl (tx44 (r := row)) ?_) | refine jap (m := 1) (N := [.ref 10 0 row.length 3]) (apR (o := false) (xs := out) ?_) | refine bstep (w_inF true 12 10 (cs false out) row [] row.length 3 (cs1 := cs false (out ++ [row])) cs_snF) ?_ | refine jap (N := cs false ([m[k][i]] : List (List Vl))) (apE (o := false) (xs := out ++ [row]) ?_) | refine k0 ?_ | refine jA fun _ => ?_ | refine jB fun _ => ?_ | refine kC (fun _ => ?_) fun _ => ?_ | (apply cx80; refine kl tx80 ?_) | (apply cx81; refine kl tx81 ?_) | (apply cx43; refine kl tx43 ?_) | (apply cx82; refine kl tx82 ?_) | (apply cx19; refine kl tx19 ?_) | (apply cx83; refine kl tx83 ?_) | (apply cx18; refine kl tx18 ?_) | (apply cx84; refine kl tx84 ?_) | (apply cx44; refine kl tx44 ?_) | (apply cx46; refine kl tx46 ?_) | refine jst ?_ | exact ⟨rfl, rfl⟩ | exact jV | fail))
                        refine ⟨⟨(i + 1, out ++ [row] ++ [m[k][i]], true), ⟨⟨by simp only; omega, sgT_suc hi2 hx (sgI_z e e3)⟩, all_suc hp hi2 (fun _ => e2)⟩⟩, by simp only; omega, ?_⟩
                        exact jw []
                    · repeat' ((conv => whnf); (first | refine And.intro ⟨by omega, by omega⟩ (Exists.intro _ (And.intro (rdI (i := k) (by omega) (by omega)) ?_)) | (apply cx83; refine kl (hC) ?_) | refine jap (N := cs false ([m[k][i]] : List (List Vl))) (apE (o := false) (xs := out) ?_) | refine k0 ?_ | refine jA fun _ => ?_ | refine jB fun _ => ?_ | refine kC (fun _ => ?_) fun _ => ?_ | (apply cx80; refine kl tx80 ?_) | (apply cx81; refine kl tx81 ?_) | (apply cx43; refine kl tx43 ?_) | (apply cx82; refine kl tx82 ?_) | (apply cx19; refine kl tx19 ?_) | (apply cx83; refine kl tx83 ?_) | (apply cx18; refine kl tx18 ?_) | (apply cx84; refine kl tx84 ?_) | (apply cx44; refine kl tx44 ?_) | (apply cx46; refine kl tx46 ?_) | refine jst ?_ | exact ⟨rfl, rfl⟩ | exact jV | fail))
                      refine ⟨⟨(i + 1, out ++ [m[k][i]], true), ⟨⟨by simp only; omega, sgT_suc hi2 hx (sgI_p e)⟩, all_suc hp hi2 (fun _ => e2)⟩⟩, by simp only; omega, ?_⟩
                      exact jw []
                  · rw [e2] at hC
                    have h5 := acT_5 c1 c3 h4 (tk_y hi2 e e2)
                    repeat' ((conv => whnf); (first | refine And.intro ⟨by omega, by omega⟩ (Exists.intro _ (And.intro (rdI (i := k) (by omega) (by omega)) ?_)) | (apply cx83; refine kl (hC) ?_) | refine k0 ?_ | refine jA fun _ => ?_ | refine jB fun _ => ?_ | refine kC (fun _ => ?_) fun _ => ?_ | (apply cx80; refine kl tx80 ?_) | (apply cx81; refine kl tx81 ?_) | (apply cx43; refine kl tx43 ?_) | (apply cx82; refine kl tx82 ?_) | (apply cx19; refine kl tx19 ?_) | (apply cx83; refine kl tx83 ?_) | (apply cx18; refine kl tx18 ?_) | (apply cx84; refine kl tx84 ?_) | (apply cx44; refine kl tx44 ?_) | (apply cx46; refine kl tx46 ?_) | refine jst ?_ | exact ⟨rfl, rfl⟩ | exact jV | fail))
                    exact ⟨by rw [apN_e ⟨hmo, hkd⟩ h2 h3 (by rw [h5]; decide), h5]; rfl, rfl⟩
              · obtain rfl : i = m[k].length := by omega
                have hnr := nr_n (t := k) h4 hrw hx
                have htk : tkN s[k] m[k] row = false := tk_n (fun j hj q => hp j hj hj q)
                cases put
                · have hnr : nrN s[k] m[k] ⟨kd, k, row⟩ = out ++ [row] := hnr
                  have hac : acT s[k] k m[k] ⟨kd, k, row⟩ = 0 := acT_0 c1 c3 (.inr htk)
                  have hzz := nrN_z (d := s[k]) (rows := m[k]) (o := ⟨kd, k, row⟩)
                  rw [hnr] at hzz
                  have hzt := z_tab h3
                  have hzo : zMdb [out ++ [row]] ≤ 2000000 := by rw [z_one]; simp only at hzz; omega
                  repeat' ((conv => whnf); (first | (apply cx44; refine kl (tx44 (r := row)) ?_) | refine jap (m := 1) (N := [.ref 8 0 row.length 3]) (apR (o := false) (xs := out) ?_) | refine bstep (w_inF true 10 8 (cs false out) row [] row.length 3 (cs1 := cs false (out ++ [row])) cs_snF) ?_ | refine bstep (w_tmpF false 11 10 (out ++ [row]) (out.length + 1) 1) ?_ | (apply cx46; refine kl ((t_impl_copyMdbG (m := [out ++ [row]]))) ?_) | (apply cx46; refine kl (tx46 (m := m)) ?_) | refine And.intro ⟨by omega, by omega⟩ (Exists.intro _ (And.intro (rdI (i := k) (by omega) (by omega)) ?_)) | refine And.intro ⟨rfl, rfl, rfl⟩ ?_ | refine And.intro ⟨by first | omega | (simp; done), by first | omega | (simp; done)⟩ (Exists.intro [slE false (out ++ [row])] (And.intro rfl ?_)) | refine ko (ptTab h3) ?_ | refine bstep (w_freeze 11 rfl (csTab h3)) ?_ | refine ⟨snc, cs false (m.set k (out ++ [row])), cs_wset, ?_⟩ | refine k0 ?_ | refine jA fun _ => ?_ | refine jB fun _ => ?_ | refine kC (fun _ => ?_) fun _ => ?_ | (apply cx80; refine kl tx80 ?_) | (apply cx81; refine kl tx81 ?_) | (apply cx43; refine kl tx43 ?_) | (apply cx82; refine kl tx82 ?_) | (apply cx19; refine kl tx19 ?_) | (apply cx83; refine kl tx83 ?_) | (apply cx18; refine kl tx18 ?_) | (apply cx84; refine kl tx84 ?_) | (apply cx44; refine kl tx44 ?_) | (apply cx46; refine kl tx46 ?_) | refine jst ?_ | exact ⟨rfl, rfl⟩ | exact jV | fail))
                  exact ⟨by rw [apN_y ⟨hmo, hkd⟩ h2 h3 hac, hnr]; exact congrArg (fun c => [(true, [c]), vI 0]) sl_set, rfl⟩
                · have hnr : nrN s[k] m[k] ⟨kd, k, row⟩ = out := hnr
                  have hac : acT s[k] k m[k] ⟨kd, k, row⟩ = 0 := acT_0 c1 c3 (.inr htk)
                  have hzz := nrN_z (d := s[k]) (rows := m[k]) (o := ⟨kd, k, row⟩)
                  rw [hnr] at hzz
                  have hzt := z_tab h3
                  have hzo : zMdb [out] ≤ 2000000 := by rw [z_one]; simp only at hzz; omega
                  repeat' ((conv => whnf); (first | refine bstep (w_tmpF false 11 7 out out.length 1) ?_ | (apply cx46; refine kl ((t_impl_copyMdbG (m := [out]))) ?_) | (apply cx46; refine kl (tx46 (m := m)) ?_) | refine And.intro ⟨by omega, by omega⟩ (Exists.intro _ (And.intro (rdI (i := k) (by omega) (by omega)) ?_)) | refine And.intro ⟨rfl, rfl, rfl⟩ ?_ | refine And.intro ⟨by first | omega | (simp; done), by first | omega | (simp; done)⟩ (Exists.intro [slE false (out)] (And.intro rfl ?_)) | refine ko (ptTab h3) ?_ | refine bstep (w_freeze 8 rfl (csTab h3)) ?_ | refine ⟨snc, cs false (m.set k (out)), cs_wset, ?_⟩ | refine k0 ?_ | refine jA fun _ => ?_ | refine jB fun _ => ?_ | refine kC (fun _ => ?_) fun _ => ?_ | (apply cx80; refine kl tx80 ?_) | (apply cx81; refine kl tx81 ?_) | (apply cx43; refine kl tx43 ?_) | (apply cx82; refine kl tx82 ?_) | (apply cx19; refine kl tx19 ?_) | (apply cx83; refine kl tx83 ?_) | (apply cx18; refine kl tx18 ?_) | (apply cx84; refine kl tx84 ?_) | (apply cx44; refine kl tx44 ?_) | (apply cx46; refine kl tx46 ?_) | refine jst ?_ | exact ⟨rfl, rfl⟩ | exact jV | fail))
                  exact ⟨by rw [apN_y ⟨hmo, hkd⟩ h2 h3 hac, hnr]; exact congrArg (fun c => [(true, [c]), vI 0]) sl_set, rfl⟩
        · rw [apN_e ⟨hmo, hkd⟩ h2 h3 (by rw [acT_t c1 (by rw [his]; exact c2), his]; exact c2), acT_t c1 (by rw [his]; exact c2), his]
          generalize thN ⟨kd, k, row⟩ false = c at *
          repeat' ((conv => whnf); (first | (apply cx80; refine kl (hI) ?_) | (apply cx81; refine kl (hK) ?_) | (apply cx43; refine kl (hA) ?_) | (apply cx82; refine kl (hT) ?_) | refine And.intro ⟨by omega, by omega⟩ (Exists.intro _ (And.intro (rdI (i := k) (by omega) (by omega)) ?_)) | (apply cx19; refine kl (tx19 (d := s[k])) ?_) | refine k0 ?_ | refine jA fun _ => ?_ | refine jB fun _ => ?_ | refine kC (fun _ => ?_) fun _ => ?_ | (apply cx80; refine kl tx80 ?_) | (apply cx81; refine kl tx81 ?_) | (apply cx43; refine kl tx43 ?_) | (apply cx82; refine kl tx82 ?_) | (apply cx19; refine kl tx19 ?_) | (apply cx83; refine kl tx83 ?_) | (apply cx18; refine kl tx18 ?_) | (apply cx84; refine kl tx84 ?_) | (apply cx44; refine kl tx44 ?_) | (apply cx46; refine kl tx46 ?_) | refine jst ?_ | exact ⟨rfl, rfl⟩ | exact jV | fail))
    · rw [apN_e ⟨hmo, hkd⟩ h2 h3 (by rw [acT_f c1]; exact c1), acT_f c1]
      generalize ofT s[k] k ⟨kd, k, row⟩ = c at *
      repeat' ((conv => whnf); (first | (apply cx80; refine kl (hI) ?_) | refine k0 ?_ | refine jA fun _ => ?_ | refine jB fun _ => ?_ | refine kC (fun _ => ?_) fun _ => ?_ | (apply cx80; refine kl tx80 ?_) | (apply cx81; refine kl tx81 ?_) | (apply cx43; refine kl tx43 ?_) | (apply cx82; refine kl tx82 ?_) | (apply cx19; refine kl tx19 ?_) | (apply cx83; refine kl tx83 ?_) | (apply cx18; refine kl tx18 ?_) | (apply cx84; refine kl tx84 ?_) | (apply cx44; refine kl tx44 ?_) | (apply cx46; refine kl tx46 ?_) | refine jst ?_ | exact ⟨rfl, rfl⟩ | exact jV | fail))
  · have hnn : ¬ (0 ≤ t ∧ t.toNat < s.length) := fun q => ht (inB_iff.2 (by omega))
    rw [ofN_n (o := ⟨kd, t, row⟩) hnn] at hI
    rw [apN_2 (o := ⟨kd, t, row⟩) ⟨hmo, hkd⟩ (fun q => hnn ⟨q.1, q.2.1⟩)]
    repeat' ((conv => whnf); (first | (apply cx80; refine kl (hI) ?_) | refine k0 ?_ | refine jA fun _ => ?_ | refine jB fun _ => ?_ | refine kC (fun _ => ?_) fun _ => ?_ | (apply cx80; refine kl tx80 ?_) | (apply cx81; refine kl tx81 ?_) | (apply cx43; refine kl tx43 ?_) | (apply cx82; refine kl tx82 ?_) | (apply cx19; refine kl tx19 ?_) | (apply cx83; refine kl tx83 ?_) | (apply cx18; refine kl tx18 ?_) | (apply cx84; refine kl tx84 ?_) | (apply cx44; refine kl tx44 ?_) | (apply cx46; refine kl tx46 ?_) | refine jst ?_ | exact ⟨rfl, rfl⟩ | exact jV | fail))

theorem cx47 {P : Program} {X : FuncId → List Arg → List (Bool × List Cell) → List (Option (List Cell)) → Prop} {a : List Arg} {Q : List (Bool × List Cell) → List (Option (List Cell)) → Prop} (h : ∃ b vals outs, a = b ∧ D P X (.call 47 b vals outs) ∧ Q vals outs) : CallS P X 47 a Q := ⟨h⟩
end

section
open Go Go.RowKit Go.IntWalk

open Enc (sz cs)

attribute [local irreducible] IntKind.wrap

/-! ### What an operation leaves: the tables stay right -/

attribute [local irreducible] pkR ppN bOf fbN cdN rpN atN lkK

theorem lk_to {l : List Prt} {a b c : List Vl} (h1 : lkK l (pkR l a) (pkR l b) = true) (h2 : lkK l (pkR l b) (pkR l c) = true) : lkK l (pkR l a) (pkR l c) = true := lkK_tr pk_len2 pk_len2 h1 h2

open Classical in
/-- A row put in its place, told by itself. -/
noncomputable def insR (l : List Prt) (row : List Vl) : List (List Vl) → List (List Vl)
  | [] => [row]
  | r :: rs => if pkR l r = pkR l row then row :: rs else if lkK l (pkR l r) (pkR l row) = true then r :: insR l row rs else row :: r :: rs

theorem insR_e {l : List Prt} {row r : List Vl} {rs : List (List Vl)} (h : pkR l r = pkR l row) : insR l row (r :: rs) = row :: rs := if_pos h

theorem insR_l {l : List Prt} {row r : List Vl} {rs : List (List Vl)} (h : lkK l (pkR l r) (pkR l row) = true) : insR l row (r :: rs) = r :: insR l row rs := by
  have e : ¬ pkR l r = pkR l row := lk_ne h
  rw [insR]
  rw [if_neg e, if_pos h]

theorem insR_g {l : List Prt} {row r : List Vl} {rs : List (List Vl)} (h : lkK l (pkR l row) (pkR l r) = true) : insR l row (r :: rs) = row :: r :: rs := by
  have e : ¬ pkR l r = pkR l row := fun q => lk_ne h q.symm
  rw [insR]
  rw [if_neg e, if_neg (by rw [lk_as pk_len2 h]; decide)]

/-- Where a key stands. -/
theorem pk_3 {l : List Prt} (a b : List Vl) : pkR l a = pkR l b ∨ lkK l (pkR l a) (pkR l b) = true ∨ lkK l (pkR l b) (pkR l a) = true := by
  by_cases e : pkR l a = pkR l b
  · exact .inl e
  · exact .inr (lkK_tri pkR_len pkR_len e)

theorem ins_fold {l : List Prt} {row : List Vl} : ∀ {rs out : List (List Vl)}, Srt l rs → fnS row (rs.foldl (sgS l row) (out, false)) = out ++ insR l row rs
  | [], out, _ => rfl
  | r :: rs, out, h => by
    obtain ⟨h1, h2⟩ := h
    rw [List.foldl_cons]
    rcases pk_3 (l := l) r row with e | q | q
    · have hall : ∀ x ∈ rs, pkR l x ≠ pkR l row := fun x hx q => lk_ne (h1 x hx) (by rw [e, q])
      have e2 : sgS l row (out, false) r = (out ++ [row], true) := by
        simp only [sgS, e, lkK_ir, and_self, if_true]
      rw [e2, sgS_t hall, insR_e e]
      simp [fnS]
    · have e : ¬ pkR l r = pkR l row := lk_ne q
      have e2 : sgS l row (out, false) r = (out ++ [r], false) := by
        simp only [sgS, if_neg e, q, Bool.true_eq_false, and_false, if_false]
      rw [e2, ins_fold h2, insR_l q, List.append_assoc]; rfl
    · have e : ¬ pkR l r = pkR l row := fun p => lk_ne q p.symm
      have q2 := lk_as pk_len2 q
      have e2 : sgS l row (out, false) r = (out ++ [row] ++ [r], true) := by
        simp only [sgS, if_neg e, q2, and_self, if_true]
      have hall : ∀ x ∈ rs, pkR l x ≠ pkR l row := fun x hx q3 => lk_ne (lk_to q (h1 x hx)) q3.symm
      rw [e2, sgS_t hall, insR_g q]
      simp [fnS]

theorem seS_ins {l : List Prt} {rows : List (List Vl)} {row : List Vl} (h : Srt l rows) : seS l rows row = insR l row rows := by
  unfold seS
  rw [ins_fold h, List.nil_append]

theorem ins_mem {l : List Prt} {row x : List Vl} : ∀ {rs : List (List Vl)}, Srt l rs → (x ∈ insR l row rs ↔ x = row ∨ x ∈ rs ∧ pkR l x ≠ pkR l row)
  | [], _ => by
    show x ∈ [row] ↔ _
    simp
  | r :: rs, h => by
    obtain ⟨h1, h2⟩ := h
    rcases pk_3 (l := l) r row with e | q | q
    · have hall : ∀ y ∈ rs, pkR l y ≠ pkR l row := fun y hy q => lk_ne (h1 y hy) (by rw [e, q])
      rw [insR_e e, List.mem_cons, List.mem_cons]
      constructor
      · rintro (rfl | p)
        · exact .inl rfl
        · exact .inr ⟨.inr p, hall x p⟩
      · rintro (rfl | ⟨rfl | p, p2⟩)
        · exact .inl rfl
        · exact absurd e p2
        · exact .inr p
    · rw [insR_l q, List.mem_cons, ins_mem h2, List.mem_cons]
      constructor
      · rintro (rfl | p | ⟨p, p2⟩)
        · exact .inr ⟨.inl rfl, lk_ne q⟩
        · exact .inl p
        · exact .inr ⟨.inr p, p2⟩
      · rintro (p | ⟨p | p, p2⟩)
        · exact .inr (.inl p)
        · exact .inl p
        · exact .inr (.inr ⟨p, p2⟩)
    · have hall : ∀ y ∈ rs, pkR l y ≠ pkR l row := fun y hy q3 => lk_ne (lk_to q (h1 y hy)) q3.symm
      rw [insR_g q, List.mem_cons, List.mem_cons]
      constructor
      · rintro (p | rfl | p)
        · exact .inl p
        · exact .inr ⟨.inl rfl, fun e => lk_ne q e.symm⟩
        · exact .inr ⟨.inr p, hall x p⟩
      · rintro (p | ⟨p | p, p2⟩)
        · exact .inl p
        · exact .inr (.inl p)
        · exact .inr (.inr p)

theorem ins_srt {l : List Prt} {row : List Vl} : ∀ {rs : List (List Vl)}, Srt l rs → Srt l (insR l row rs)
  | [], _ => ⟨fun x hx => by simp at hx, trivial⟩
  | r :: rs, h => by
    obtain ⟨h1, h2⟩ := h
    rcases pk_3 (l := l) r row with e | q | q
    · rw [insR_e e]
      exact ⟨fun x hx => by rw [← e]; exact h1 x hx, h2⟩
    · rw [insR_l q]
      refine ⟨fun x hx => ?_, ins_srt h2⟩
      rcases (ins_mem h2).1 hx with rfl | ⟨p, _⟩
      · exact q
      · exact h1 x p
    · rw [insR_g q]
      refine ⟨fun x hx => ?_, h1, h2⟩
      rcases List.mem_cons.1 hx with rfl | p
      · exact q
      · exact lk_to q (h1 x p)

theorem srt_del {l : List Prt} : ∀ {rs : List (List Vl)} {j : Nat}, Srt l rs → Srt l (rs.take j ++ rs.drop (j + 1))
  | [], j, _ => by simp [Srt]
  | r :: rs, 0, h => h.2
  | r :: rs, j + 1, h => by
    obtain ⟨h1, h2⟩ := h
    refine ⟨fun x hx => h1 x ?_, srt_del h2⟩
    rcases List.mem_append.1 hx with p | p
    · exact List.mem_of_mem_take p
    · exact List.mem_of_mem_drop p

/-- What is right of rows, told by what they are. -/
theorem rw_iff {d : Df} {k : Nat} {rows : List (List Vl)} : (∀ j (hj : j < rows.length), RwI d k rows j hj) ↔ (∀ r ∈ rows, roOk (rpN d) r = true ∧ lkN d k r = false) ∧ Srt (ppN d) rows := by
  constructor
  · intro h
    refine ⟨fun r hr => ?_, tb_srt h⟩
    obtain ⟨j, hj, rfl⟩ := List.getElem_of_mem hr
    exact ⟨(h j hj).ro, (h j hj).lk⟩
  · rintro ⟨h1, h2⟩ j hj
    have hm := h1 _ (List.getElem_mem hj)
    refine ⟨hm.1, hm.2, fun h0 => ?_⟩
    have key : ∀ {rs : List (List Vl)}, Srt (ppN d) rs → ∀ i (hi : i + 1 < rs.length), lkK (ppN d) (pkR (ppN d) rs[i]) (pkR (ppN d) rs[i + 1]) = true := by
      intro rs
      induction rs with
      | nil => intro _ i hi; simp at hi
      | cons r rs ih =>
        intro hs i hi
        cases i with
        | zero => exact hs.1 _ (by simp)
        | succ i => exact ih hs.2 i (by simpa using hi)
    obtain ⟨j, rfl⟩ : ∃ a, j = a + 1 := ⟨j - 1, by omega⟩
    exact key h2 j hj

/-- No row has what is to be had once, told by what rows are. -/
theorem tk_iff {d : Df} {rows : List (List Vl)} {row : List Vl} : tkN d rows row = false ↔ ∀ r ∈ rows, ∀ i (h : i < d.idx.length), d.idx[i].uniq = true → byN d i h r = byN d i h row → pkR (ppN d) r = pkR (ppN d) row := by
  constructor
  · intro h r hr i hi hu hb
    obtain ⟨j, hj, rfl⟩ := List.getElem_of_mem hr
    exact Classical.byContradiction fun hne => bOf_f h ⟨i, hi, hu, j, hj, hb, hne⟩
  · intro h
    refine bOf_n fun q => ?_
    obtain ⟨i, hi, q⟩ := q
    obtain ⟨j, hj, p⟩ := q.ex
    exact p.ne (h _ (List.getElem_mem hj) i hi q.uni p.by_)

theorem tb_iff {d : Df} {k : Nat} {rows : List (List Vl)} : tbS d k rows = true ↔ ((∀ r ∈ rows, roOk (rpN d) r = true ∧ lkN d k r = false) ∧ Srt (ppN d) rows) ∧ ∀ r ∈ rows, tkN d rows r = false := by
  constructor
  · intro h
    have h := bOf_t h
    refine ⟨rw_iff.1 h.1, fun r hr => ?_⟩
    obtain ⟨j, hj, rfl⟩ := List.getElem_of_mem hr
    exact h.2 j hj
  · rintro ⟨h1, h2⟩
    exact bOf_y ⟨rw_iff.2 h1, fun j hj => h2 _ (List.getElem_mem hj)⟩

theorem ac_inv {d : Df} {k : Nat} {rows : List (List Vl)} {o : Opn} (h : acT d k rows o = 0) : ofT d k o = 0 ∧ thN o (isN d rows o) = 0 ∧ (o.kind = 4 ∨ tkN d rows o.row = false) := by
  unfold acT at h
  split at h
  · rename_i h1
    split at h
    · rename_i h2
      split at h
      · rename_i h3; exact ⟨h1, h2, .inl h3⟩
      · split at h
        · omega
        · rename_i h4
          refine ⟨h1, h2, .inr ?_⟩
          cases e : tkN d rows o.row with
          | true => exact absurd e h4
          | false => rfl
    · rename_i h2; exact absurd h h2
  · rename_i h1; exact absurd h h1

theorem of_inv {d : Df} {k : Nat} {o : Opn} (h : ofT d k o = 0) (h4 : ¬ o.kind = 4) : roOk (rpN d) o.row = true ∧ lkN d k o.row = false := by
  unfold ofT at h
  rw [if_neg h4] at h
  split at h
  · rename_i h1
    split at h
    · omega
    · rename_i h2
      refine ⟨h1, ?_⟩
      cases e : lkN d k o.row with
      | true => exact absurd e h2
      | false => rfl
  · omega

theorem tb_nr {d : Df} {k : Nat} {rows : List (List Vl)} {o : Opn} (h : tbS d k rows = true) (hc : acT d k rows o = 0) : tbS d k (nrN d rows o) = true := by
  obtain ⟨⟨h1, h2⟩, h3⟩ := tb_iff.1 h
  obtain ⟨c1, c2, c3⟩ := ac_inv hc
  by_cases h4 : o.kind = 4
  · unfold nrN
    rw [if_pos h4]
    generalize (atN (ppN d) rows o.row).toNat = j
    have hsub : ∀ r, r ∈ rows.take j ++ rows.drop (j + 1) → r ∈ rows := fun r hr => by
      rcases List.mem_append.1 hr with p | p
      · exact List.mem_of_mem_take p
      · exact List.mem_of_mem_drop p
    refine tb_iff.2 ⟨⟨fun r hr => h1 r (hsub r hr), srt_del h2⟩, fun r hr => tk_iff.2 fun r2 hr2 => tk_iff.1 (h3 r (hsub r hr)) r2 (hsub r2 hr2)⟩
  · obtain ⟨o1, o2⟩ := of_inv c1 h4
    have htk : tkN d rows o.row = false := by
      rcases c3 with c3 | c3
      · exact absurd c3 h4
      · exact c3
    rw [nrN_n h4, seS_ins h2]
    refine tb_iff.2 ⟨⟨fun r hr => ?_, ins_srt h2⟩, fun r hr => tk_iff.2 fun r2 hr2 i hi hu hb => ?_⟩
    · rcases (ins_mem h2).1 hr with rfl | ⟨p, _⟩
      · exact ⟨o1, o2⟩
      · exact h1 r p
    · rcases (ins_mem h2).1 hr with rfl | ⟨p, p2⟩
      · rcases (ins_mem h2).1 hr2 with rfl | ⟨q, q2⟩
        · rfl
        · exact tk_iff.1 htk r2 q i hi hu hb
      · rcases (ins_mem h2).1 hr2 with rfl | ⟨q, q2⟩
        · exact (tk_iff.1 htk r p i hi hu hb.symm).symm
        · exact tk_iff.1 (h3 r p) r2 q i hi hu hb

theorem mo_tb {s : List Df} {m : Tbs} (h : moS s m = true) {k : Nat} (h1 : k < s.length) (h2 : k < m.length) : tbS s[k] k m[k] = true := (bOf_t h).2.2 k h1 h2

/-- Tables that are right stay so. -/
theorem mo_ap {s : List Df} {m : Tbs} {o : Opn} (h : moS s m = true) : moS s (apN s m o).1 = true := by
  by_cases hk : inB o.kind 1 4 = true
  · by_cases h2 : ApH s m o
    · obtain ⟨kd, t, row⟩ := o
      obtain ⟨ha, hb, hc⟩ := h2
      obtain ⟨k, rfl⟩ : ∃ k : Nat, t = k := ⟨t.toNat, by simp only at ha; omega⟩
      simp only [Int.toNat_natCast] at hb hc
      by_cases h3 : acT s[k] k m[k] ⟨kd, k, row⟩ = 0
      · rw [apN_y ⟨h, hk⟩ hb hc h3]
        refine bOf_y ⟨mo_fb h, by rw [List.length_set]; exact mo_len h, fun j h1 h2 => ?_⟩
        by_cases e : k = j
        · subst e
          simp only [List.getElem_set_self]
          exact tb_nr (mo_tb h hb hc) h3
        · simp only [List.getElem_set_ne e]
          exact mo_tb h h1 (by simpa using h2)
      · rw [apN_e ⟨h, hk⟩ hb hc h3]; exact h
    · rw [apN_2 ⟨h, hk⟩ h2]; exact h
  · rw [apN_1 (fun q => hk q.2)]; exact h
end

section
open Go Go.RowKit Go.IntWalk

open Enc (sz cs)

attribute [local irreducible] IntKind.wrap

/-! ### Tables that are drawn, bent ones too; values, rows, operations -/

attribute [local irreducible] blC inC sIC p2C dfD rwC apN mdN fbN ppN pkR

theorem on_ok {c : Cur} {n : Nat} (h : CurOk c) : CurOk (onC c n).2 := blC_ok h

/-- Columns up to six or seven. -/
def zcl (n : Nat) : Cl := ⟨⟨#[122]⟩ ++ ⟨#[48 + UInt8.ofNat n]⟩, 4, false⟩

def zcR : Nat → List Cl → Cur → List Cl × Cur
  | 0, l, c => (l, c)
  | f + 1, l, c => if l.length < 6 + (blC c 2).1 then zcR f (l ++ [zcl l.length]) (blC c 2).2 else (l, (blC c 2).2)

theorem zcR_ok : ∀ {f : Nat} {l : List Cl} {c : Cur}, CurOk c → CurOk (zcR f l c).2
  | 0, _, _, h => h
  | f + 1, l, c, h => by
    unfold zcR
    split
    · exact zcR_ok (blC_ok h)
    · exact blC_ok h

theorem zcR_y {f : Nat} {l : List Cl} {c : Cur} (h : l.length < 6 + (blC c 2).1) : zcR (f + 1) l c = zcR f (l ++ [zcl l.length]) (blC c 2).2 := by
  rw [zcR]; exact if_pos h

theorem zcR_n {f : Nat} {l : List Cl} {c : Cur} (h : ¬ l.length < 6 + (blC c 2).1) : zcR (f + 1) l c = (l, (blC c 2).2) := by
  rw [zcR]; exact if_neg h

/-- What is bent of a table: the number of the case, the column, the cursor behind it. -/
def anW (d : Df) (k w : Nat) (c : Cur) : Df × Cur :=
  if w = 0 then ({ d with name := (sIC c [⟨#[]⟩, ⟨#[116, 97, 98, 108, 101]⟩, ⟨#[65]⟩, ⟨#[116, 50]⟩]).1 }, (sIC c [⟨#[]⟩, ⟨#[116, 97, 98, 108, 101]⟩, ⟨#[65]⟩, ⟨#[116, 50]⟩]).2)
  else if w = 1 then ({ d with cols := d.cols.set k { d.cols.getD k ⟨⟨#[]⟩, 0, false⟩ with name := (sIC c [⟨#[105, 100]⟩, ⟨#[97]⟩, ⟨#[105, 110, 116]⟩, ⟨#[]⟩]).1 } }, (sIC c [⟨#[105, 100]⟩, ⟨#[97]⟩, ⟨#[105, 110, 116]⟩, ⟨#[]⟩]).2)
  else if w = 2 then ({ d with cols := d.cols.set k { d.cols.getD k ⟨⟨#[]⟩, 0, false⟩ with type := (blC c 6).1 } }, (blC c 6).2)
  else if w = 3 then ({ d with cols := d.cols.set k { d.cols.getD k ⟨⟨#[]⟩, 0, false⟩ with null := !(d.cols.getD k ⟨⟨#[]⟩, 0, false⟩).null } }, c)
  else if w = 4 then ({ d with prim := (p2C c (d.cols.length + 1)).1 }, (p2C c (d.cols.length + 1)).2)
  else if w = 5 then ({ d with prim := d.prim ++ [d.prim.getD 0 ⟨0, false⟩] }, c)
  else if w = 6 then ({ d with idx := d.idx ++ [⟨(sIC c [⟨#[117, 98]⟩, ⟨#[119]⟩, ⟨#[100, 101, 115, 99]⟩]).1, false, (p2C (sIC c [⟨#[117, 98]⟩, ⟨#[119]⟩, ⟨#[100, 101, 115, 99]⟩]).2 (d.cols.length + 1)).1⟩] }, (p2C (sIC c [⟨#[117, 98]⟩, ⟨#[119]⟩, ⟨#[100, 101, 115, 99]⟩]).2 (d.cols.length + 1)).2)
  else if w = 7 then ({ d with cols := d.cols.take (blC c 2).1 }, (blC c 2).2)
  else if w = 8 then ({ d with cols := (zcR 6 d.cols c).1 }, (zcR 6 d.cols c).2)
  else (d, c)

def anK (c : Cur) : Nat × Cur := blC (dfD c ⟨#[116]⟩).2 (dfD c ⟨#[116]⟩).1.cols.length

def anF (c : Cur) : Df × Cur := anW (dfD c ⟨#[116]⟩).1 (anK c).1 (blC (anK c).2 16).1 (blC (anK c).2 16).2

theorem anW_ok {d : Df} {k w : Nat} {c : Cur} (h : CurOk c) : CurOk (anW d k w c).2 := by
  unfold anW
  split
  · exact sIC_ok h
  split
  · exact sIC_ok h
  split
  · exact blC_ok h
  split
  · exact h
  split
  · exact p2C_ok h
  split
  · exact h
  split
  · exact p2C_ok (sIC_ok h)
  split
  · exact blC_ok h
  split
  · exact zcR_ok h
  · exact h

theorem anF_ok {c : Cur} (h : CurOk c) : CurOk (anF c).2 := anW_ok (blC_ok (blC_ok (dfD_ok h)))

/-- One to four tables, the later ones bent. -/
def laC (c : Cur) : List Df × Cur :=
  if (blC (ldC c).2 8).1 = 0 then ((ldC c).1 ++ [(anF (blC (ldC c).2 8).2).1], (anF (blC (ldC c).2 8).2).2)
  else if (blC (ldC c).2 8).1 = 1 then ((ldC c).1 ++ [(dfD (blC (ldC c).2 8).2 ⟨#[118]⟩).1, (dfD (dfD (blC (ldC c).2 8).2 ⟨#[118]⟩).2 ⟨#[119]⟩).1], (dfD (dfD (blC (ldC c).2 8).2 ⟨#[118]⟩).2 ⟨#[119]⟩).2)
  else ((ldC c).1, (blC (ldC c).2 8).2)

theorem laC_ok {c : Cur} (h : CurOk c) : CurOk (laC c).2 := by
  unfold laC
  split
  · exact anF_ok (blC_ok (ldC_ok h))
  · split
    · exact dfD_ok (name := ⟨#[119]⟩) (dfD_ok (name := ⟨#[118]⟩) (blC_ok (ldC_ok h)))
    · exact blC_ok (ldC_ok h)

/-- l22Defs -/
def dsC (c : Cur) : List Df × Cur := if (onC c 12).1 = true then laC (onC c 12).2 else ldC (onC c 12).2

theorem dsC_ok {c : Cur} (h : CurOk c) : CurOk (dsC c).2 := by
  unfold dsC
  split
  · exact laC_ok (on_ok h)
  · exact ldC_ok (on_ok h)

/-- A value of a type. -/
def voB (c : Cur) (t : Int) : Vl × Cur :=
  if t = 1 then (⟨t, (inC c [0, 1, 2, 3, -1, 255, 256, 2147483647, -2147483648]).1, ⟨#[]⟩⟩, (inC c [0, 1, 2, 3, -1, 255, 256, 2147483647, -2147483648]).2)
  else if t = 2 then (⟨t, (inC (blC c 100000).2 [0, 1, -1, 255, 256, -256, -257, 65535, 1000000000000000, -1000000000000000, -((blC c 100000).1 : Int)]).1, ⟨#[]⟩⟩, (inC (blC c 100000).2 [0, 1, -1, 255, 256, -256, -257, 65535, 1000000000000000, -1000000000000000, -((blC c 100000).1 : Int)]).2)
  else if t = 3 then (⟨t, 0, (sIC c [⟨#[]⟩, ⟨#[97]⟩, ⟨#[98]⟩, ⟨#[97, 98]⟩, ⟨#[0]⟩, ⟨#[97, 0]⟩, ⟨#[0, 255]⟩, ⟨#[255]⟩, ⟨#[119, 111, 114, 100]⟩, ⟨#[122]⟩]).1⟩, (sIC c [⟨#[]⟩, ⟨#[97]⟩, ⟨#[98]⟩, ⟨#[97, 98]⟩, ⟨#[0]⟩, ⟨#[97, 0]⟩, ⟨#[0, 255]⟩, ⟨#[255]⟩, ⟨#[119, 111, 114, 100]⟩, ⟨#[122]⟩]).2)
  else (⟨t, (blC c 2).1, ⟨#[]⟩⟩, (blC c 2).2)

def voC (c : Cur) (t : Int) (null : Bool) : Vl × Cur :=
  if null = true then (if (onC c 4).1 = true then (⟨0, 0, ⟨#[]⟩⟩, (onC c 4).2) else voB (onC c 4).2 t) else voB c t

theorem voB_ok {c : Cur} {t : Int} (h : CurOk c) : CurOk (voB c t).2 := by
  unfold voB
  split
  · exact inC_ok h
  split
  · exact inC_ok (blC_ok h)
  split
  · exact sIC_ok h
  · exact blC_ok h

theorem voC_ok {c : Cur} {t : Int} {b : Bool} (h : CurOk c) : CurOk (voC c t b).2 := by
  unfold voC
  split
  · split
    · exact on_ok h
    · exact voB_ok (on_ok h)
  · exact voB_ok h

theorem voB_s {c : Cur} {t : Int} : (voB c t).1.s.size ≤ 4 := by
  unfold voB
  split
  · exact Nat.zero_le _
  split
  · exact Nat.zero_le _
  split
  · have h := sIC_mem (c := c) (l := [⟨#[]⟩, ⟨#[97]⟩, ⟨#[98]⟩, ⟨#[97, 98]⟩, ⟨#[0]⟩, ⟨#[97, 0]⟩, ⟨#[0, 255]⟩, ⟨#[255]⟩, ⟨#[119, 111, 114, 100]⟩, ⟨#[122]⟩]) (by simp)
    generalize (sIC c [⟨#[]⟩, ⟨#[97]⟩, ⟨#[98]⟩, ⟨#[97, 98]⟩, ⟨#[0]⟩, ⟨#[97, 0]⟩, ⟨#[0, 255]⟩, ⟨#[255]⟩, ⟨#[119, 111, 114, 100]⟩, ⟨#[122]⟩]) = x at *
    simp only [List.mem_cons, List.not_mem_nil, or_false] at h
    rcases h with h | h | h | h | h | h | h | h | h | h <;> (simp only; rw [h]; decide)
  · exact Nat.zero_le _

theorem voC_s {c : Cur} {t : Int} {b : Bool} : (voC c t b).1.s.size ≤ 4 := by
  unfold voC
  split
  · split
    · exact Nat.zero_le _
    · exact voB_s
  · exact voB_s

/-- l2Draw -/
def vdC (c : Cur) : Vl × Cur := voC (blC c 4).2 ((1 + (blC c 4).1 : Nat) : Int) true

theorem vdC_ok {c : Cur} (h : CurOk c) : CurOk (vdC c).2 := voC_ok (blC_ok h)

/-- A number near an edge. -/
def nuL (c : Cur) : List Int := [0, 1, -1, 63, 127, 128, 255, 256, 65535, 65536, 2147483647, -2147483648, 2147483648, -2147483649, 1000000000000000, -1000000000000000, 1000000000000001, 9223372036854775807, -9223372036854775808, ((blC c 100000).1 : Int), -((blC (blC c 100000).2 100000).1 : Int)]

def nuC (c : Cur) : Int × Cur := inC (blC (blC c 100000).2 100000).2 (nuL c)

theorem nuC_ok {c : Cur} (h : CurOk c) : CurOk (nuC c).2 := inC_ok (blC_ok (blC_ok h))

/-- l2Any -/
def vaW (v : Vl) (w : Nat) (c : Cur) : Vl × Cur :=
  if w = 0 then ({ v with k := (blC c 6).1 }, (blC c 6).2)
  else if w = 1 then ({ v with n := (nuC c).1 }, (nuC c).2)
  else if w = 2 then ({ v with s := ⟨(List.replicate (30 + (blC c 2).1) (0 : UInt8)).toArray⟩ }, (blC c 2).2)
  else if w = 3 then ({ v with s := (sIC c [⟨#[105, 116, 39, 115]⟩, ⟨#[97, 32, 98]⟩, ⟨#[126]⟩, ⟨#[127]⟩]).1 }, (sIC c [⟨#[105, 116, 39, 115]⟩, ⟨#[97, 32, 98]⟩, ⟨#[126]⟩, ⟨#[127]⟩]).2)
  else (v, c)

def vaC (c : Cur) : Vl × Cur := vaW (vdC c).1 (blC (vdC c).2 10).1 (blC (vdC c).2 10).2

theorem vaW_ok {v : Vl} {w : Nat} {c : Cur} (h : CurOk c) : CurOk (vaW v w c).2 := by
  unfold vaW
  split
  · exact blC_ok h
  split
  · exact nuC_ok h
  split
  · exact blC_ok h
  split
  · exact sIC_ok h
  · exact h

theorem vaC_ok {c : Cur} (h : CurOk c) : CurOk (vaC c).2 := vaW_ok (blC_ok (vdC_ok h))

theorem vaW_s {v : Vl} {w : Nat} {c : Cur} (h : v.s.size ≤ 4) : (vaW v w c).1.s.size ≤ 31 := by
  unfold vaW
  split
  · simp only; omega
  split
  · simp only; omega
  split
  · have hb := blC_lt (c := c) (n := 2) (by decide)
    show (List.replicate (30 + (blC c 2).1) (0 : UInt8)).toArray.size ≤ 31
    rw [List.size_toArray, List.length_replicate]; omega
  split
  · have h := sIC_mem (c := c) (l := [⟨#[105, 116, 39, 115]⟩, ⟨#[97, 32, 98]⟩, ⟨#[126]⟩, ⟨#[127]⟩]) (by simp)
    generalize (sIC c [⟨#[105, 116, 39, 115]⟩, ⟨#[97, 32, 98]⟩, ⟨#[126]⟩, ⟨#[127]⟩]) = x at *
    simp only [List.mem_cons, List.not_mem_nil, or_false] at h
    rcases h with h | h | h | h <;> (simp only; rw [h]; decide)
  · exact Nat.le_trans h (by decide)

theorem vaC_s {c : Cur} : (vaC c).1.s.size ≤ 31 := vaW_s voC_s

/-- l11Any: a row, bent. -/
def lgR (l : List Cl) : Nat → List Vl → List Vl
  | 0, r => r
  | i + 1, r => if (l.getD i ⟨⟨#[]⟩, 0, false⟩).type = 3 then (lgR l i r).set i ⟨3, 0, ⟨(List.replicate 30 (0 : UInt8)).toArray⟩⟩ else lgR l i r

def raW (l : List Cl) (r : List Vl) (w : Nat) (c : Cur) : List Vl × Cur :=
  if w = 0 then (r.set 0 (vaC c).1, (vaC c).2)
  else if w = 1 then (r ++ [(vdC c).1], (vdC c).2)
  else if w = 2 then (lgR l l.length r, c)
  else (r, c)

def raC (c : Cur) (l : List Cl) : List Vl × Cur := raW l (rwC c l l.length).1 (blC (rwC c l l.length).2 10).1 (blC (rwC c l l.length).2 10).2

theorem raW_ok {l : List Cl} {r : List Vl} {w : Nat} {c : Cur} (h : CurOk c) : CurOk (raW l r w c).2 := by
  unfold raW
  split
  · exact vaC_ok h
  split
  · exact vdC_ok h
  split
  · exact h
  · exact h

theorem raC_ok {c : Cur} {l : List Cl} (h : CurOk c) : CurOk (raC c l).2 := raW_ok (blC_ok (rwC_ok h))

theorem lgR_len {l : List Cl} {r : List Vl} : ∀ {i : Nat}, (lgR l i r).length = r.length
  | 0 => rfl
  | i + 1 => by
    rw [lgR]
    split
    · rw [List.length_set, lgR_len]
    · exact lgR_len

/-- l22Op: an operation. -/
def opK (c : Cur) : Int × Cur := inC c [1, 1, 1, 2, 2, 3, 4]

def opT (s : List Df) (c : Cur) : Nat × Cur := blC (opK c).2 s.length

def opR (s : List Df) (c : Cur) : List Vl × Cur := rwC (opT s c).2 (s.getD (opT s c).1 ⟨⟨#[]⟩, [], [], []⟩).cols (s.getD (opT s c).1 ⟨⟨#[]⟩, [], [], []⟩).cols.length

noncomputable def opC1 (s : List Df) (c : Cur) : Opn × Cur :=
  (⟨(opK c).1, (opT s c).1, if (opK c).1 = 4 then pkR (ppN (s.getD (opT s c).1 ⟨⟨#[]⟩, [], [], []⟩)) (opR s c).1 else (opR s c).1⟩, (opR s c).2)

theorem opC1_ok {s : List Df} {c : Cur} (h : CurOk c) : CurOk (opC1 s c).2 := rwC_ok (blC_ok (inC_ok h))

/-- l22Draw: tables that are right. -/
noncomputable def tdR (s : List Df) : Nat → Tbs → Cur → Tbs × Cur
  | 0, m, c => (m, c)
  | i + 1, m, c => tdR s i (apN s m (opC1 s c).1).1 (opC1 s c).2

theorem tdR_ok {s : List Df} : ∀ {i : Nat} {m : Tbs} {c : Cur}, CurOk c → CurOk (tdR s i m c).2
  | 0, _, _, h => h
  | i + 1, _, _, h => tdR_ok (i := i) (opC1_ok h)

theorem tdR_mo {s : List Df} : ∀ {i : Nat} {m : Tbs} {c : Cur}, moS s m = true → moS s (tdR s i m c).1 = true
  | 0, _, _, h => h
  | i + 1, _, _, h => tdR_mo (i := i) (mo_ap h)

noncomputable def tdC (c : Cur) (s : List Df) (most : Nat) : Tbs × Cur := tdR s (blC c most).1 (mdN s) (blC c most).2

/-- Tables without rows are right. -/
theorem mo_new {s : List Df} (h : fbN s = -1) : moS s (mdN s) = true := by
  rw [mdN_y h]
  refine bOf_y ⟨h, List.length_replicate, fun t h1 h2 => ?_⟩
  rw [List.getElem_replicate]
  exact tb_iff.2 ⟨⟨fun r hr => by simp at hr, trivial⟩, fun r hr => by simp at hr⟩
end

section
open Go Go.RowKit Go.IntWalk

open Enc (sz cs)

attribute [local irreducible] IntKind.wrap

/-! ### How large it is -/

attribute [local irreducible] blC inC sIC apN mdN fbN ppN pkR

structure DfB (d : Df) : Prop where
  name : d.name.size ≤ 5
  cols : d.cols.length ≤ 7
  col : ∀ x ∈ d.cols, x.name.size ≤ 5
  prim : d.prim.length ≤ 3
  idx : d.idx.length ≤ 3
  ix : ∀ x ∈ d.idx, x.name.size ≤ 5 ∧ x.parts.length ≤ 2

theorem cnt_le_mul {α : Type} {c : α → Nat} {b : Nat} : ∀ {l : List α}, (∀ x ∈ l, c x ≤ b) → cnt c l ≤ b * l.length
  | [], _ => Nat.zero_le _
  | x :: l, h => by
    have h1 := h x (List.mem_cons_self ..)
    have h2 := cnt_le_mul (l := l) fun y hy => h y (List.mem_cons_of_mem _ hy)
    rw [List.length_cons, Nat.mul_add]
    simp only [cnt]; omega

theorem DfB.z {d : Df} (h : DfB d) : zDf d ≤ 100 := by
  obtain ⟨h1, h2, h3, h4, h5, h6⟩ := h
  have c1 := cnt_le_mul (c := zCl) (b := 5) h3
  have c2 := cnt_le_mul (c := zIx) (b := 7) (l := d.idx) (fun x hx => by
    have := h6 x hx
    show x.name.size + x.parts.length ≤ 7
    omega)
  have e : zDf d = d.name.size + (d.cols.length + cnt zCl d.cols) + d.prim.length + (d.idx.length + cnt zIx d.idx) := rfl
  omega

theorem nmC_s {i : Nat} : (nmC i).size ≤ 1 := by
  unfold nmC
  split <;> decide

theorem csR_n : ∀ {f i : Nat} {l : List Cl} {c : Cur}, (∀ x ∈ l, x.name.size ≤ 5) → ∀ x ∈ (csR f i l c).1, x.name.size ≤ 5
  | 0, _, _, _, h => h
  | f + 1, i, l, c, h => by
    rw [csR]
    split
    · refine csR_n fun x hx => ?_
      rcases List.mem_append.1 hx with p | p
      · exact h x p
      · rw [List.mem_singleton.1 p]
        exact Nat.le_trans (nmC_s (i := i)) (by decide)
    · exact h

theorem u_v {c : Cur} : (sIC c [⟨#[117]⟩, ⟨#[118]⟩]).1.size = 1 := by
  have h := sIC_mem (c := c) (l := [⟨#[117]⟩, ⟨#[118]⟩]) (by simp)
  generalize (sIC c [⟨#[117]⟩, ⟨#[118]⟩]).1 = x at *
  simp only [List.mem_cons, List.not_mem_nil, or_false] at h
  rcases h with h | h <;> (rw [h]; rfl)

theorem ixS_b {c : Cur} {i n : Nat} : (ixS c i n).1.name.size ≤ 5 ∧ (ixS c i n).1.parts.length ≤ 2 := by
  constructor
  · show ((sIC c [⟨#[117]⟩, ⟨#[118]⟩]).1 ++ nmC i).size ≤ 5
    rw [ByteArray.size_append, u_v]
    have := nmC_s (i := i)
    omega
  · exact p2C_len

theorem ixR_b {n : Nat} : ∀ {i : Nat} {l : List Ix} {c : Cur}, (∀ x ∈ l, x.name.size ≤ 5 ∧ x.parts.length ≤ 2) → ∀ x ∈ (ixR n i l c).1, x.name.size ≤ 5 ∧ x.parts.length ≤ 2
  | 0, _, _, h => h
  | i + 1, l, c, h => ixR_b (i := i) fun x hx => by
    rcases List.mem_append.1 hx with p | p
    · exact h x p
    · rw [List.mem_singleton.1 p]
      exact ixS_b

theorem dfD_b {c : Cur} {name : ByteArray} (h : name.size ≤ 5) : DfB (dfD c name).1 := by
  have h1 := dcC_len (c := c)
  have h2 := dpC_len (c := c)
  have h3 := dxC_len (c := c)
  refine ⟨h, ?_, csR_n (fun x hx => ?_), ?_, ?_, ixR_b (fun x hx => by simp at hx)⟩
  · show (dcC c).1.length ≤ 7; omega
  · rw [List.mem_singleton.1 hx]
    show (⟨#[105, 100]⟩ : ByteArray).size ≤ 5
    decide
  · show (dpC c).1.length ≤ 3; omega
  · show (dxC c).1.length ≤ 3; omega

theorem zcR_b : ∀ {f : Nat} {l : List Cl} {c : Cur}, l.length ≤ 7 → (∀ x ∈ l, x.name.size ≤ 5) → (zcR f l c).1.length ≤ 7 ∧ ∀ x ∈ (zcR f l c).1, x.name.size ≤ 5
  | 0, _, _, h, h2 => ⟨h, h2⟩
  | f + 1, l, c, h, h2 => by
    rw [zcR]
    split
    · rename_i hl
      have := blC_lt (c := c) (n := 2) (by decide)
      refine zcR_b (by rw [List.length_append, List.length_singleton]; omega) fun x hx => ?_
      rcases List.mem_append.1 hx with p | p
      · exact h2 x p
      · rw [List.mem_singleton.1 p]
        show (_ ++ _ : ByteArray).size ≤ 5
        rw [ByteArray.size_append]
        show 1 + 1 ≤ 5
        omega
    · exact ⟨h, h2⟩

theorem sIC_s {c : Cur} {l : List ByteArray} {b : Nat} (h : 0 < l.length) (h2 : ∀ x ∈ l, x.size ≤ b) : (sIC c l).1.size ≤ b := h2 _ (sIC_mem h)

theorem set_all {α : Type} {l : List α} {k : Nat} {y : α} {P : α → Prop} (h : ∀ x ∈ l, P x) (hy : P y) : ∀ x ∈ l.set k y, P x := fun x hx => by
  rcases List.mem_or_eq_of_mem_set hx with p | p
  · exact h x p
  · rw [p]; exact hy

theorem app_all {α : Type} {l : List α} {y : α} {P : α → Prop} (h : ∀ x ∈ l, P x) (hy : P y) : ∀ x ∈ l ++ [y], P x := fun x hx => by
  rcases List.mem_append.1 hx with p | p
  · exact h x p
  · rw [List.mem_singleton.1 p]; exact hy

theorem gd_n {l : List Cl} {k : Nat} (h : ∀ x ∈ l, x.name.size ≤ 5) : (l.getD k ⟨⟨#[]⟩, 0, false⟩).name.size ≤ 5 := by
  rw [List.getD_eq_getElem?_getD]
  by_cases hk : k < l.length
  · rw [List.getElem?_eq_getElem hk]; exact h _ (List.getElem_mem hk)
  · rw [List.getElem?_eq_none (by omega)]; decide

theorem anW_b {d : Df} {k w : Nat} {c : Cur} (h : DfB d) (hi : d.idx.length ≤ 2) (hp : d.prim.length ≤ 2) : DfB (anW d k w c).1 := by
  obtain ⟨h1, h2, h3, h4, h5, h6⟩ := h
  unfold anW
  split
  · exact ⟨sIC_s (by simp) (by intro x hx; simp only [List.mem_cons, List.not_mem_nil, or_false] at hx; rcases hx with h | h | h | h <;> (rw [h]; decide)), h2, h3, h4, h5, h6⟩
  split
  · exact ⟨h1, by rw [List.length_set]; exact h2, set_all h3 (sIC_s (by simp) (by intro x hx; simp only [List.mem_cons, List.not_mem_nil, or_false] at hx; rcases hx with h | h | h | h <;> (rw [h]; decide))), h4, h5, h6⟩
  split
  · exact ⟨h1, by rw [List.length_set]; exact h2, set_all h3 (gd_n h3), h4, h5, h6⟩
  split
  · exact ⟨h1, by rw [List.length_set]; exact h2, set_all h3 (gd_n h3), h4, h5, h6⟩
  split
  · exact ⟨h1, h2, h3, Nat.le_trans p2C_len (by decide), h5, h6⟩
  split
  · exact ⟨h1, h2, h3, by rw [List.length_append, List.length_singleton]; omega, h5, h6⟩
  split
  · exact ⟨h1, h2, h3, h4, by rw [List.length_append, List.length_singleton]; omega, app_all h6 ⟨sIC_s (by simp) (by intro x hx; simp only [List.mem_cons, List.not_mem_nil, or_false] at hx; rcases hx with h | h | h <;> (rw [h]; decide)), p2C_len⟩⟩
  split
  · exact ⟨h1, by rw [List.length_take]; omega, fun x hx => h3 x (List.mem_of_mem_take hx), h4, h5, h6⟩
  split
  · have hz := zcR_b (f := 6) (c := c) h2 h3
    exact ⟨h1, hz.1, hz.2, h4, h5, h6⟩
  · exact ⟨h1, h2, h3, h4, h5, h6⟩

theorem anF_b {c : Cur} : DfB (anF c).1 := anW_b (dfD_b (by decide)) dxC_len dpC_len

structure ScB (s : List Df) : Prop where
  pos : 1 ≤ s.length
  len : s.length ≤ 4
  df : ∀ d ∈ s, DfB d
  two : ∀ h : 0 < s.length, 2 ≤ s[0].cols.length

theorem ScB.z {s : List Df} (h : ScB s) : zSc s ≤ 404 := by
  have c1 := cnt_le_mul (c := zDf) (b := 100) (l := s) (fun d hd => (h.df d hd).z)
  have := h.len
  have e : zSc s = s.length + cnt zDf s := rfl
  omega

theorem dfD_2 {c : Cur} {name : ByteArray} : 2 ≤ (dfD c name).1.cols.length := (dcC_len (c := c)).1

theorem ldC_b {c : Cur} : ScB (ldC c).1 ∧ (ldC c).1.length ≤ 2 := by
  unfold ldC
  split
  · refine ⟨⟨by simp, by simp, fun d hd => ?_, fun _ => dfD_2⟩, by simp⟩
    simp only [List.mem_cons, List.not_mem_nil, or_false] at hd
    rcases hd with h | h
    · rw [h]; exact dfD_b (by decide)
    · rw [h]; exact dfD_b (by decide)
  · refine ⟨⟨by simp, by simp, fun d hd => ?_, fun _ => dfD_2⟩, by simp⟩
    rw [List.mem_singleton.1 hd]; exact dfD_b (by decide)

theorem ScB.app {s l : List Df} (h : ScB s) (hl : s.length + l.length ≤ 4) (h2 : ∀ d ∈ l, DfB d) : ScB (s ++ l) := by
  refine ⟨by rw [List.length_append]; have := h.pos; omega, by rw [List.length_append]; exact hl, fun d hd => ?_, fun _ => ?_⟩
  · rcases List.mem_append.1 hd with p | p
    · exact h.df d p
    · exact h2 d p
  · have h0 : 0 < s.length := h.pos
    rw [List.getElem_append_left h0]
    exact h.two h0

theorem laC_b {c : Cur} : ScB (laC c).1 := by
  have h := ldC_b (c := c)
  unfold laC
  split
  · refine h.1.app (by have := h.2; simp; omega) fun d hd => ?_
    rw [List.mem_singleton.1 hd]; exact anF_b
  · split
    · refine h.1.app (by have := h.2; simp; omega) fun d hd => ?_
      simp only [List.mem_cons, List.not_mem_nil, or_false] at hd
      rcases hd with h | h
      · rw [h]; exact dfD_b (by decide)
      · rw [h]; exact dfD_b (by decide)
    · exact h.1

theorem dsC_b {c : Cur} : ScB (dsC c).1 := by
  unfold dsC
  split
  · exact laC_b
  · exact ldC_b.1

/-! rows and operations -/

theorem gd_b {s : List Df} (h : ScB s) (k : Nat) : (s.getD k ⟨⟨#[]⟩, [], [], []⟩).cols.length ≤ 7 := by
  rw [List.getD_eq_getElem?_getD]
  by_cases hk : k < s.length
  · rw [List.getElem?_eq_getElem hk]; exact (h.df _ (List.getElem_mem hk)).cols
  · rw [List.getElem?_eq_none (by omega)]; decide

theorem pkV_s {r : List Vl} {p : Prt} {b : Nat} (h : ∀ x ∈ r, x.s.size ≤ b) : (pkV r p).s.size ≤ b := by
  unfold pkV
  split
  · rw [List.getD_eq_getElem?_getD]
    by_cases hk : p.col.toNat < r.length
    · rw [List.getElem?_eq_getElem hk]; exact h _ (List.getElem_mem hk)
    · rw [List.getElem?_eq_none (by omega)]; exact Nat.zero_le _
  · exact Nat.zero_le _

structure RowB (r : List Vl) : Prop where
  len : r.length ≤ 8
  s : ∀ x ∈ r, x.s.size ≤ 31

theorem RowB.z {r : List Vl} (h : RowB r) : zRow r ≤ 256 := by
  have c1 := cnt_le_mul (c := zVl) (b := 31) (l := r) h.s
  have := h.len
  have e : zRow r = r.length + cnt zVl r := rfl
  omega

theorem rwC_s {c : Cur} {l : List Cl} : ∀ {i : Nat}, ∀ x ∈ (rwC c l i).1, x.s.size ≤ 31
  | 0 => fun x hx => by simp [rwC] at hx
  | i + 1 => app_all (rwC_s (i := i)) (Nat.le_trans shC_s (by decide))

theorem opR_b {s : List Df} {c : Cur} (h : ScB s) : (opR s c).1.length ≤ 7 ∧ ∀ x ∈ (opR s c).1, x.s.size ≤ 31 := by
  refine ⟨?_, rwC_s⟩
  unfold opR
  rw [rwC_len]
  exact gd_b h _

theorem pkR_s {l : List Prt} {r : List Vl} {b : Nat} (h : ∀ x ∈ r, x.s.size ≤ b) : ∀ x ∈ pkR l r, x.s.size ≤ b := by
  unfold pkR
  intro x hx
  obtain ⟨p, _, rfl⟩ := List.mem_map.1 hx
  exact pkV_s h

theorem opC1_b {s : List Df} {c : Cur} (h : ScB s) : (opC1 s c).1.row.length ≤ 7 ∧ ∀ x ∈ (opC1 s c).1.row, x.s.size ≤ 31 := by
  have hr := opR_b (c := c) h
  show (if (opK c).1 = 4 then pkR (ppN (s.getD (opT s c).1 ⟨⟨#[]⟩, [], [], []⟩)) (opR s c).1 else (opR s c).1).length ≤ 7 ∧ ∀ x ∈ (if (opK c).1 = 4 then pkR (ppN (s.getD (opT s c).1 ⟨⟨#[]⟩, [], [], []⟩)) (opR s c).1 else (opR s c).1), x.s.size ≤ 31
  split
  · refine ⟨?_, pkR_s hr.2⟩
    rw [pkR_len]
    exact Nat.le_trans ppN_len (by decide)
  · exact hr

theorem lgR_s {l : List Cl} {r : List Vl} (h : ∀ x ∈ r, x.s.size ≤ 31) : ∀ {i : Nat}, ∀ x ∈ lgR l i r, x.s.size ≤ 31
  | 0 => h
  | i + 1 => by
    rw [lgR]
    split
    · refine set_all (lgR_s h (i := i)) ?_
      show (List.replicate 30 (0 : UInt8)).toArray.size ≤ 31
      rw [List.size_toArray, List.length_replicate]; omega
    · exact lgR_s h

theorem raC_b {c : Cur} {l : List Cl} (h : l.length ≤ 7) : RowB (raC c l).1 := by
  have hl : (rwC c l l.length).1.length = l.length := rwC_len
  have hs := rwC_s (c := c) (l := l) (i := l.length)
  unfold raC raW
  split
  · exact ⟨by rw [List.length_set]; omega, set_all hs vaC_s⟩
  split
  · exact ⟨by rw [List.length_append, List.length_singleton]; omega, app_all hs (Nat.le_trans voC_s (by decide))⟩
  split
  · exact ⟨by rw [lgR_len]; omega, lgR_s hs⟩
  · exact ⟨by rw [hl]; omega, hs⟩

theorem opC1_z {c : Cur} {s : List Df} (h : ScB s) : zRow (opC1 s c).1.row ≤ 256 := by
  have hr := opC1_b (c := c) h
  exact (RowB.mk (Nat.le_trans hr.1 (by decide)) hr.2).z

theorem mdN_len {s : List Df} : (mdN s).length ≤ s.length := by
  by_cases h : fbN s = -1
  · rw [mdN_y h, List.length_replicate]; exact Nat.le_refl _
  · rw [mdN_n h]; exact Nat.zero_le _

theorem mdN_z0 {s : List Df} : zMdb (mdN s) ≤ s.length := by
  have hc : ∀ n, cnt zTab (List.replicate n ([] : List (List Vl))) = 0 := fun n => by
    induction n with
    | zero => rfl
    | succ n ih => rw [List.replicate_succ]; simp [cnt, ih, zTab]
  by_cases e : fbN s = -1
  · rw [mdN_y e]
    show (List.replicate s.length ([] : List (List Vl))).length + cnt zTab (List.replicate s.length ([] : List (List Vl))) ≤ _
    rw [hc, List.length_replicate]; omega
  · rw [mdN_n e]; exact Nat.zero_le _

theorem tdR_z {s : List Df} (h : ScB s) : ∀ {i : Nat} {m : Tbs} {c : Cur}, zMdb (tdR s i m c).1 ≤ zMdb m + 257 * i
  | 0, m, _ => by simp [tdR]
  | i + 1, m, c => by
    have h1 := tdR_z h (i := i) (m := (apN s m (opC1 s c).1).1) (c := (opC1 s c).2)
    have h2 := apN_z (s := s) (m := m) (o := (opC1 s c).1)
    have h3 := opC1_z (c := c) h
    show zMdb (tdR s i (apN s m (opC1 s c).1).1 (opC1 s c).2).1 ≤ _
    omega

theorem tdC_z {s : List Df} {c : Cur} {most : Nat} (h : ScB s) (hm : 0 < most) (h2 : most ≤ 100) : zMdb (tdC c s most).1 ≤ 30000 := by
  have h1 := tdR_z h (i := (blC c most).1) (m := mdN s) (c := (blC c most).2)
  have h3 := mdN_z0 (s := s)
  have h4 := blC_lt (c := c) hm
  have h5 := h.len
  unfold tdC
  omega
end

section
open Go Go.RowKit Go.IntWalk

open Enc (sz cs)

attribute [local irreducible] IntKind.wrap

/-! ### What is drawn straight is right -/

attribute [local irreducible] blC inC sIC bOf fstI cdN

theorem frOk_s {s : ByteArray} (h : 1 ≤ s.size ∧ s.size ≤ 2) (hc : ∀ i (h : i < s.size), 97 ≤ s[i].toNat ∧ s[i].toNat ≤ 122) : frOk s = true := by
  have hw : ∀ w ∈ wrds, 3 ≤ w.size := by
    intro w hw
    simp only [wrds, List.mem_cons, List.not_mem_nil, or_false] at hw
    rcases hw with h | h | h | h | h | h | h | h | h | h <;> (rw [h]; decide)
  rw [frOk_f fun q => by have := hw s q; omega]
  exact nmOk_y ⟨by omega, fun i hi => .inl (hc i hi)⟩

theorem fr_1 {a : UInt8} (h : 97 ≤ a.toNat ∧ a.toNat ≤ 122) : frOk ⟨#[a]⟩ = true := by
  refine frOk_s ⟨by show 1 ≤ 1; omega, by show 1 ≤ 2; omega⟩ fun i hi => ?_
  have hi : i < 1 := hi
  obtain rfl : i = 0 := by omega
  exact h

theorem fr_2 {a b : UInt8} (h : 97 ≤ a.toNat ∧ a.toNat ≤ 122) (h2 : 97 ≤ b.toNat ∧ b.toNat ≤ 122) : frOk ⟨#[a, b]⟩ = true := by
  refine frOk_s ⟨by show 1 ≤ 2; omega, by show 2 ≤ 2; omega⟩ fun i hi => ?_
  have hi : i < 2 := hi
  rcases (show i = 0 ∨ i = 1 by omega) with rfl | rfl
  · exact h
  · exact h2

theorem nmC_f {i : Nat} : frOk (nmC i) = true := by
  unfold nmC
  split
  · exact fr_1 (by decide)
  · exact fr_1 (by decide)
  · exact fr_1 (by decide)

theorem nmC_ne {i j : Nat} (h : i < j) (hj : j < 3) : nmC i ≠ nmC j := by
  rcases (show i = 0 ∧ j = 1 ∨ i = 0 ∧ j = 2 ∨ i = 1 ∧ j = 2 by omega) with ⟨rfl, rfl⟩ | ⟨rfl, rfl⟩ | ⟨rfl, rfl⟩ <;> decide

theorem nmC_id {i : Nat} : (⟨#[105, 100]⟩ : ByteArray) ≠ nmC i := by
  unfold nmC
  split <;> decide

structure CcI (l : List Cl) (j : Nat) (h : j < l.length) : Prop where
  id : j = 0 → l[j].name = ⟨#[105, 100]⟩ ∧ l[j].null = false
  nm : 0 < j → l[j].name = nmC (j - 1)
  ty : inB l[j].type 1 4 = true

structure CcOk (l : List Cl) : Prop where
  len : 1 ≤ l.length ∧ l.length ≤ 4
  col : ∀ j (h : j < l.length), CcI l j h

theorem csR_cl : ∀ {f i : Nat} {l : List Cl} {c : Cur}, CcOk l → l.length = i + 1 → CcOk (csR f i l c).1
  | 0, _, _, _, h, _ => h
  | f + 1, i, l, c, h, hl => by
    rw [csR]
    split
    · rename_i hi
      refine csR_cl ⟨by rw [List.length_append, List.length_singleton]; omega, fun j hj => ?_⟩ (by rw [List.length_append, List.length_singleton]; omega)
      rw [List.length_append, List.length_singleton] at hj
      by_cases hj2 : j < l.length
      · have := h.col j hj2
        refine ⟨fun q => ?_, fun q => ?_, ?_⟩
        · rw [List.getElem_append_left hj2]; exact this.id q
        · rw [List.getElem_append_left hj2]; exact this.nm q
        · rw [List.getElem_append_left hj2]; exact this.ty
      · obtain rfl : j = l.length := by omega
        have hb := blC_lt (c := (blC c 3).2) (n := 4) (by decide)
        refine ⟨fun q => by omega, fun _ => ?_, ?_⟩
        · rw [List.getElem_append_right (by omega)]
          simp only [Nat.sub_self, List.getElem_cons_zero]
          rw [hl, Nat.add_sub_cancel]; rfl
        · rw [List.getElem_append_right (by omega)]
          simp only [Nat.sub_self, List.getElem_cons_zero]
          refine inB_iff.2 ?_
          show 1 ≤ ((1 + (blC (blC c 3).2 4).1 : Nat) : Int) ∧ ((1 + (blC (blC c 3).2 4).1 : Nat) : Int) ≤ 4
          omega
    · exact h

theorem ty_id {c : Cur} : inB (inC c [1, 1, 3, 2]).1 1 4 = true := by
  have h := inC_mem (c := c) (l := [1, 1, 3, 2]) (by simp)
  simp only [List.mem_cons, List.not_mem_nil, or_false] at h
  exact inB_iff.2 (by omega)

theorem dcC_cl {c : Cur} : CcOk (dcC c).1 := by
  refine csR_cl ⟨⟨by simp, by simp⟩, fun j hj => ?_⟩ rfl
  have hj : j < 1 := hj
  obtain rfl : j = 0 := by omega
  exact ⟨fun _ => ⟨rfl, rfl⟩, fun q => by omega, ty_id⟩

theorem p2C_prt {c : Cur} {n : Nat} (h : 2 ≤ n) : PrtOk n (p2C c n).1 := by
  have ha := blC_lt (c := c) (n := n) (by omega)
  unfold p2C
  rw [if_pos (by omega)]
  split
  · refine ⟨rfl, fun i hi => ?_⟩
    have hi : i < 2 := hi
    have hm : ((blC c n).1 + 1) % n < n := Nat.mod_lt _ (by omega)
    rcases (show i = 0 ∨ i = 1 by omega) with rfl | rfl
    · refine ⟨inB_iff.2 ?_, fun j hj => by omega⟩
      show 0 ≤ (((blC c n).1 : Nat) : Int) ∧ (((blC c n).1 : Nat) : Int) ≤ (n : Int) - 1
      omega
    · refine ⟨inB_iff.2 ?_, fun j hj => ?_⟩
      · show 0 ≤ ((((blC c n).1 + 1) % n : Nat) : Int) ∧ ((((blC c n).1 + 1) % n : Nat) : Int) ≤ (n : Int) - 1
        omega
      · obtain rfl : j = 0 := by omega
        show (((blC c n).1 : Nat) : Int) ≠ ((((blC c n).1 + 1) % n : Nat) : Int)
        by_cases e : (blC c n).1 + 1 < n
        · rw [Nat.mod_eq_of_lt e]; omega
        · rw [show (blC c n).1 + 1 = n by omega, Nat.mod_self]; omega
  · refine ⟨rfl, fun i hi => ?_⟩
    have hi : i < 1 := hi
    obtain rfl : i = 0 := by omega
    refine ⟨inB_iff.2 ?_, fun j hj => by omega⟩
    show 0 ≤ (((blC c n).1 : Nat) : Int) ∧ (((blC c n).1 : Nat) : Int) ≤ (n : Int) - 1
    omega

theorem pmC_prt {c : Cur} {b : Bool} {n : Nat} (h : 2 ≤ n) : PrtOk n (pmC c b).1 := by
  have one : ∀ x : Bool, PrtOk n [⟨0, x⟩] := fun x => ⟨rfl, fun i hi => by
    have hi : i < 1 := hi
    obtain rfl : i = 0 := by omega
    refine ⟨inB_iff.2 ?_, fun j hj => by omega⟩
    show (0 : Int) ≤ 0 ∧ (0 : Int) ≤ (n : Int) - 1
    omega⟩
  unfold pmC
  split
  · split
    · refine ⟨rfl, fun i hi => ?_⟩
      have hi : i < 2 := hi
      rcases (show i = 0 ∨ i = 1 by omega) with rfl | rfl
      · refine ⟨inB_iff.2 ?_, fun j hj => by omega⟩
        show (0 : Int) ≤ 0 ∧ (0 : Int) ≤ (n : Int) - 1
        omega
      · refine ⟨inB_iff.2 ?_, fun j hj => ?_⟩
        · show (0 : Int) ≤ 1 ∧ (1 : Int) ≤ (n : Int) - 1
          omega
        · obtain rfl : j = 0 := by omega
          show (0 : Int) ≠ 1
          decide
    · exact one _
  · exact one _

/-- The parts of the key: the first column, and the second one where it is never nothing. -/
theorem pmC_col {c : Cur} {b : Bool} : ∀ p ∈ (pmC c b).1, p.col = 0 ∨ p.col = 1 ∧ b = false := by
  unfold pmC
  intro p hp
  split at hp
  · rename_i hb
    split at hp
    · simp only [List.mem_cons, List.not_mem_nil, or_false] at hp
      rcases hp with rfl | rfl
      · exact .inl rfl
      · exact .inr ⟨rfl, hb⟩
    · simp only [List.mem_cons, List.not_mem_nil, or_false] at hp
      subst hp
      exact .inl rfl
  · simp only [List.mem_cons, List.not_mem_nil, or_false] at hp
    subst hp
    exact .inl rfl

structure IxI (n : Nat) (x : Ix) (i : Nat) : Prop where
  nm : x.name = ⟨#[117]⟩ ++ nmC i ∨ x.name = ⟨#[118]⟩ ++ nmC i
  prt : PrtOk n x.parts

theorem ixS_i {c : Cur} {i n : Nat} (h : 2 ≤ n) : IxI n (ixS c i n).1 i := by
  refine ⟨?_, p2C_prt h⟩
  have h := sIC_mem (c := c) (l := [⟨#[117]⟩, ⟨#[118]⟩]) (by simp)
  show (sIC c [⟨#[117]⟩, ⟨#[118]⟩]).1 ++ nmC i = _ ∨ (sIC c [⟨#[117]⟩, ⟨#[118]⟩]).1 ++ nmC i = _
  generalize (sIC c [⟨#[117]⟩, ⟨#[118]⟩]).1 = x at *
  simp only [List.mem_cons, List.not_mem_nil, or_false] at h
  rcases h with h | h
  · rw [h]; exact .inl rfl
  · rw [h]; exact .inr rfl

/-- No index; one; or two. -/
theorem dxC_i {c : Cur} : (dxC c).1 = [] ∨ (∃ x, (dxC c).1 = [x] ∧ IxI (dcC c).1.length x 1) ∨ ∃ x y, (dxC c).1 = [x, y] ∧ IxI (dcC c).1.length x 2 ∧ IxI (dcC c).1.length y 1 := by
  have hn : 2 ≤ (dcC c).1.length := dcC_len.1
  have hb := blC_lt (c := (dpC c).2) (n := 3) (by decide)
  unfold dxC
  generalize blC (dpC c).2 3 = k at *
  obtain ⟨k, e⟩ := k
  simp only at *
  rcases (show k = 0 ∨ k = 1 ∨ k = 2 by omega) with rfl | rfl | rfl
  · exact .inl rfl
  · exact .inr (.inl ⟨_, rfl, ixS_i hn⟩)
  · exact .inr (.inr ⟨_, _, rfl, ixS_i hn, ixS_i hn⟩)

theorem IxI.fr {n i : Nat} {x : Ix} (h : IxI n x i) (hi : i = 1 ∨ i = 2) : frOk x.name = true := by
  rcases hi with rfl | rfl <;> rcases h.nm with e | e <;> (rw [e]; exact fr_2 (by decide) (by decide))

theorem IxI.ne {n : Nat} {x y : Ix} (h : IxI n x 2) (h2 : IxI n y 1) : x.name ≠ y.name := by
  rcases h.nm with e | e <;> rcases h2.nm with e2 | e2 <;> (rw [e, e2]; decide)

/-- A table that is drawn straight is right. -/
theorem dfD_cd {c : Cur} {name : ByteArray} (h : frOk name = true) : cdN (dfD c name).1 = 0 := by
  have hc := dcC_cl (c := c)
  have hn : 2 ≤ (dcC c).1.length := dcC_len.1
  have hx := dxC_i (c := c)
  refine cdN_0 ?_ ?_ ?_ (by have := dxC_len (c := c); show ¬ 2 < (dxC c).1.length; omega) ?_ ?_
  · have hok : NmsOk (dfD c name).1 := by
      refine ⟨fun i hi => ?_, fun i hi => ?_, h⟩
      · have := hc.col i hi
        by_cases h0 : i = 0
        · rw [show (dfD c name).1.cols[i].name = _ from (this.id h0).1]
          exact fr_2 (by decide) (by decide)
        · rw [show (dfD c name).1.cols[i].name = _ from this.nm (by omega)]
          exact nmC_f
      · have hi : i < (dxC c).1.length := hi
        show frOk (dxC c).1[i].name = true
        rcases hx with e | ⟨x, e, h1⟩ | ⟨x, y, e, h1, h2⟩
        · simp [e] at hi
        · simp only [e] at hi ⊢
          obtain rfl : i = 0 := by simpa using hi
          exact h1.fr (.inl rfl)
        · simp only [e] at hi ⊢
          rcases (show i = 0 ∨ i = 1 by simp at hi; omega) with rfl | rfl
          · exact h1.fr (.inr rfl)
          · exact h2.fr (.inl rfl)
    unfold nmsOk; simp [hok]
  · refine bOf_y ⟨inB_iff.2 ?_, fun i hi => (hc.col i hi).ty⟩
    have := hc.len
    show 1 ≤ (((dcC c).1.length : Nat) : Int) ∧ (((dcC c).1.length : Nat) : Int) ≤ 6
    omega
  · refine bOf_y ⟨fun i hi j hj => ?_, fun i hi j hj => ?_⟩
    · have hi : i < (dcC c).1.length := hi
      have hl := hc.len
      have h1 := (hc.col i hi).nm (by omega)
      show (dcC c).1[j].name ≠ (dcC c).1[i].name
      rw [h1]
      by_cases h0 : j = 0
      · rw [((hc.col j (by omega)).id h0).1]; exact nmC_id
      · rw [(hc.col j (by omega)).nm (by omega)]
        exact nmC_ne (by omega) (by omega)
    · have hi : i < (dxC c).1.length := hi
      show (dxC c).1[j].name ≠ (dxC c).1[i].name
      rcases hx with e | ⟨x, e, h1⟩ | ⟨x, y, e, h1, h2⟩
      · simp [e] at hi
      · simp only [e, List.length_singleton] at hi; omega
      · simp only [e] at hi ⊢
        have hi : i < 2 := hi
        obtain rfl : i = 1 := by omega
        obtain rfl : j = 0 := by omega
        exact h1.ne h2
  · refine bOf_y ⟨fun i hi => bOf_y ?_, bOf_y (pmC_prt hn)⟩
    have hi : i < (dxC c).1.length := hi
    show PrtOk (dcC c).1.length (dxC c).1[i].parts
    rcases hx with e | ⟨x, e, h1⟩ | ⟨x, y, e, h1, h2⟩
    · simp [e] at hi
    · simp only [e] at hi ⊢
      obtain rfl : i = 0 := by simpa using hi
      exact h1.prt
    · simp only [e] at hi ⊢
      rcases (show i = 0 ∨ i = 1 by simp at hi; omega) with rfl | rfl
      · exact h1.prt
      · exact h2.prt
  · rintro ⟨i, hi, h2, h3⟩
    have hi : i < (dpC c).1.length := hi
    have hp := pmC_col (c := (dcC c).2) (b := ((dcC c).1.getD 1 ⟨⟨#[]⟩, 0, false⟩).null) (dpC c).1[i] (List.getElem_mem hi)
    have h2 : (dpC c).1[i].col.toNat < (dcC c).1.length := h2
    have h3 : (dcC c).1[(dpC c).1[i].col.toNat].null = true := h3
    rcases hp with e | ⟨e, e2⟩
    · have h0 : (dpC c).1[i].col.toNat = 0 := by rw [e]; rfl
      simp only [h0] at h3
      rw [((hc.col 0 (by omega)).id rfl).2] at h3
      cases h3
    · have h0 : (dpC c).1[i].col.toNat = 1 := by rw [e]; rfl
      simp only [h0] at h3
      rw [List.getD_eq_getElem?_getD, List.getElem?_eq_getElem (show 1 < (dcC c).1.length by omega)] at e2
      rw [show (dcC c).1[1].null = false from e2] at h3
      cases h3

theorem ldC_fb {c : Cur} : fbN (ldC c).1 = -1 := by
  have ht : frOk (⟨#[116]⟩ : ByteArray) = true := fr_1 (by decide)
  have hu : frOk (⟨#[117]⟩ : ByteArray) = true := fr_1 (by decide)
  unfold ldC
  split
  · refine fstI_no fun j hj q => ?_
    have hj : j < 2 := hj
    rcases q with q | ⟨_, q | ⟨i, hi, q⟩⟩
    · omega
    · rcases (show j = 0 ∨ j = 1 by omega) with rfl | rfl
      · exact q (dfD_cd ht)
      · exact q (dfD_cd hu)
    · obtain rfl : j = 1 := by omega
      obtain rfl : i = 0 := by omega
      exact absurd (show (⟨#[116]⟩ : ByteArray) = ⟨#[117]⟩ from q) (by decide)
  · refine fstI_no fun j hj q => ?_
    have hj : j < 1 := hj
    obtain rfl : j = 0 := by omega
    rcases q with q | ⟨_, q | ⟨i, hi, q⟩⟩
    · omega
    · exact q (dfD_cd ht)
    · omega
end

section
open Go Go.RowKit Go.IntWalk

open Enc (sz cs)

attribute [local irreducible] IntKind.wrap

/-! ### Drawn rows fit; what is told of operations -/

attribute [local irreducible] blC inC sIC bOf fstI cdN fbN vlOk apN moS

theorem shB_k {c : Cur} {t : Int} : (shB c t).1.k = t := by
  unfold shB
  split
  · rfl
  · split <;> rfl

theorem shB_v {c : Cur} {t : Int} (h : inB t 1 4 = true) : vlOk (shB c t).1 = true := by
  have ht := inB_iff.1 h
  by_cases h3 : t = 3
  · rw [vl_3 (by rw [shB_k]; exact h3)]
    have hs := shB_s (c := c) (t := t)
    refine bOf_y ⟨?_, by omega⟩
    unfold shB
    rw [if_pos h3]
  · by_cases h4 : t = 4
    · rw [vl_4 (by rw [shB_k]; exact h4)]
      have hb := blC_lt (c := c) (n := 2) (by decide)
      unfold shB
      rw [if_neg h3, if_pos h4]
      refine bOf_y ⟨inB_iff.2 ?_, rfl⟩
      show 0 ≤ (((blC c 2).1 : Nat) : Int) ∧ (((blC c 2).1 : Nat) : Int) ≤ 1
      omega
    · have hm := inC_mem (c := c) (l := [0, 1, 2, 3, 4, 5, -1]) (by simp)
      simp only [List.mem_cons, List.not_mem_nil, or_false] at hm
      have e : (shB c t).1 = ⟨t, (inC c [0, 1, 2, 3, 4, 5, -1]).1, ⟨#[]⟩⟩ := by
        unfold shB
        rw [if_neg h3, if_neg h4]
      by_cases h1 : t = 1
      · rw [e, vl_1 (v := ⟨t, _, _⟩) h1]
        refine bOf_y ⟨inB_iff.2 ?_, rfl⟩
        simp only
        omega
      · rw [e, vl_2 (v := ⟨t, _, _⟩) (by simp only; omega)]
        refine bOf_y ⟨inB_iff.2 ?_, rfl⟩
        simp only
        omega

theorem v0_v : vlOk v0 = true := by
  rw [vl_0 rfl]; exact bOf_y ⟨rfl, rfl⟩

theorem sh_fit {c : Cur} {x : Cl} {i : Int} {b : Bool} (h : inB x.type 1 4 = true) : ftV ⟨i, x.type, x.null, b⟩ (shC c x).1 = true := by
  have ht := inB_iff.1 h
  have body : ∀ e : Cur, ftV ⟨i, x.type, x.null, b⟩ (shB e x.type).1 = true := fun e => by
    rw [ftV_t (shB_v h)]
    exact bOf_y (.inl ⟨shB_k, by rw [shB_k]; omega⟩)
  unfold shC
  split
  · rename_i hn
    split
    · rw [ftV_t v0_v]
      exact bOf_y (.inr ⟨rfl, hn⟩)
    · exact body _
  · exact body _

theorem rwC_get {c : Cur} {l : List Cl} : ∀ {n i : Nat} (h : i < (rwC c l n).1.length), (rwC c l n).1[i] = (shC (rwC c l i).2 (l.getD i ⟨⟨#[]⟩, 0, false⟩)).1
  | 0, i, h => by simp [rwC] at h
  | n + 1, i, h => by
    have hl : (rwC c l n).1.length = n := rwC_len
    have h2 : i < n + 1 := by rwa [rwC_len] at h
    by_cases e : i < n
    · have e2 : (rwC c l (n + 1)).1[i] = (rwC c l n).1[i]'(by omega) := List.getElem_append_left (by omega)
      rw [e2]; exact rwC_get _
    · obtain rfl : i = n := by omega
      have e2 : (rwC c l (i + 1)).1[i] = [(shC (rwC c l i).2 (l.getD i ⟨⟨#[]⟩, 0, false⟩)).1][i - (rwC c l i).1.length]'(by rw [hl]; simp) := List.getElem_append_right (by omega)
      rw [e2]
      simp only [hl, Nat.sub_self, List.getElem_cons_zero]

theorem gdl {l : List Cl} {i : Nat} (h : i < l.length) : l.getD i ⟨⟨#[]⟩, 0, false⟩ = l[i] := by
  rw [List.getD_eq_getElem?_getD, List.getElem?_eq_getElem h]; rfl

theorem rpL_get {d : Df} {i : Nat} (h : i < (rpL d).length) : (rpL d)[i] = ⟨i, (d.cols[i]'(by rwa [rpL_len] at h)).type, (d.cols[i]'(by rwa [rpL_len] at h)).null, false⟩ := by
  simp only [rpL, List.getElem_mapIdx]

/-- A drawn row fits. -/
theorem row_fit {d : Df} {c : Cur} (h : cdN d = 0) : roOk (rpN d) (rwC c d.cols d.cols.length).1 = true := by
  have ht := (cd_all h).2.2
  have hl := inB_iff.1 ht.len
  rw [rpN_y h]
  refine bOf_y ⟨bOf_y ⟨by rw [rpL_len]; omega, fun i hi => ?_⟩, by rw [rwC_len, rpL_len], bOf_y ⟨by rw [rwC_len, rpL_len]; exact Nat.le_refl _, fun i hi h2 => ?_⟩⟩
  · have hi2 : i < d.cols.length := by rwa [rpL_len] at hi
    rw [rpL_get]
    exact bOf_y ⟨inB_iff.2 ⟨by simp only; omega, by simp only; omega⟩, ht.type i hi2⟩
  · have hi2 : i < d.cols.length := by rwa [rpL_len] at h2
    rw [rpL_get, rwC_get, gdl hi2]
    exact sh_fit (ht.type i hi2)

theorem ptsO_get {d : Df} {l : List By} {i : Nat} (h : i < (ptsO d l).length) : (ptsO d l)[i] = ptO d (l[i]'(by rwa [ptsO_len] at h)) := by
  simp only [ptsO, List.getElem_map]

theorem pkR_get {l : List Prt} {r : List Vl} {i : Nat} (h : i < (pkR l r).length) : (pkR l r)[i] = pkV r (l[i]'(by rwa [pkR_len] at h)) := by
  simp only [pkR, List.getElem_map]

/-- So does its key. -/
theorem key_fit {d : Df} {c : Cur} (h : cdN d = 0) : roOk (ppN d) (pkR (ppN d) (rwC c d.cols d.cols.length).1) = true := by
  have ht := (cd_all h).2.2
  have hl := inB_iff.1 ht.len
  have hp := cd_prt h
  have hpl := inB_iff.1 hp.len
  rw [ppN_y h]
  have hcol : ∀ i (hi : i < d.prim.length), 0 ≤ d.prim[i].col ∧ d.prim[i].col.toNat < d.cols.length := fun i hi => hp.at' hi
  refine bOf_y ⟨bOf_y ⟨by rw [ptsO_len]; omega, fun i hi => ?_⟩, by rw [pkR_len], bOf_y ⟨by rw [pkR_len]; exact Nat.le_refl _, fun i hi h2 => ?_⟩⟩
  · have hi2 : i < d.prim.length := by rwa [ptsO_len] at hi
    obtain ⟨a1, a2⟩ := hcol i hi2
    rw [ptsO_get, ptO_at a2]
    exact bOf_y ⟨inB_iff.2 ⟨by simp only; omega, by simp only; omega⟩, ht.type _ a2⟩
  · have hi2 : i < d.prim.length := by rwa [ptsO_len] at h2
    obtain ⟨a1, a2⟩ := hcol i hi2
    rw [pkR_get, ptsO_get, ptO_at a2]
    have hlen : (rwC c d.cols d.cols.length).1.length = d.cols.length := rwC_len
    rw [pkV_y (p := ⟨d.prim[i].col, _, _, _⟩) (inB_iff.2 ⟨a1, by simp only; omega⟩) (by simp only; omega)]
    simp only
    rw [rwC_get, gdl a2]
    exact sh_fit (ht.type _ a2)

/-- An operation that is right by itself. -/
structure OpF (d : Df) (kd : Int) (row : List Vl) : Prop where
  kind : inB kd 1 4 = true
  del : kd = 4 → roOk (ppN d) row = true
  row : ¬ kd = 4 → roOk (rpN d) row = true

theorem gds {s : List Df} {i : Nat} (h : i < s.length) : s.getD i ⟨⟨#[]⟩, [], [], []⟩ = s[i] := by
  rw [List.getD_eq_getElem?_getD, List.getElem?_eq_getElem h]; rfl

theorem opC1_f {s : List Df} {c : Cur} (hf : fbN s = -1) (h0 : 0 < s.length) : ∃ k, ∃ h : k < s.length, (opC1 s c).1.t = (k : Nat) ∧ OpF s[k] (opC1 s c).1.kind (opC1 s c).1.row := by
  have hk : (opT s c).1 < s.length := blC_lt h0
  have hcd := cd_fb hf hk
  have hkd : inB (opK c).1 1 4 = true := by
    have hm := inC_mem (c := c) (l := [1, 1, 1, 2, 2, 3, 4]) (by simp)
    simp only [List.mem_cons, List.not_mem_nil, or_false] at hm
    exact inB_iff.2 (by unfold opK; omega)
  refine ⟨(opT s c).1, hk, rfl, hkd, fun h4 => ?_, fun h4 => ?_⟩
  · have h4 : (opK c).1 = 4 := h4
    show roOk _ (if (opK c).1 = 4 then _ else _) = true
    rw [if_pos h4]
    unfold opR
    rw [gds hk]
    exact key_fit hcd
  · have h4 : ¬ (opK c).1 = 4 := h4
    show roOk _ (if (opK c).1 = 4 then _ else _) = true
    rw [if_neg h4]
    unfold opR
    rw [gds hk]
    exact row_fit hcd
end

end Go.Proofs.YtddikflnjloagaaGreatDoor
