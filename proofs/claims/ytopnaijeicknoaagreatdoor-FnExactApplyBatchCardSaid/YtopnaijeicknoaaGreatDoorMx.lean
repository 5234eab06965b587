/- Functions of the program, each with what it gives back. -/
import Derived.Test.YtopnaijeicknoaaGreatDoorKe
import Derived.Test.YtopnaijeicknoaaGreatDoorChecked
import Derived.IntWalk
import Derived.Test.YtopnaijeicknoaaGreatDoorMs
namespace Go.Proofs.YtopnaijeicknoaaGreatDoor
open Go Go.RowKit Go.IntWalk
open Enc (sz cs)
attribute [local irreducible] IntKind.wrap

/-! ### Rows that are alike by an index -/
attribute [local irreducible] ptsO ptO pkR ppN bOf fstI fbN cdN ixN
theorem slP {id n k : Nat} (h : k ≤ n) (h0 : ¬ k = 0) : sliceT (.ref id 0 n 4) 4 0 k = some (.ref id (0 + 0 * 4) (k - 0) 4) := by
  unfold sliceT
  rw [if_pos (Nat.zero_le _)]
  show (if k ≤ n ∧ 4 = 4 then _ else _) = _
  rw [if_pos ⟨h, rfl⟩, if_neg (fun e => h0 e.symm)]
theorem tkP {P Q : List Prt} : ((cs true (P ++ Q)).drop (0 + 0 * 4)).take ((P.length - 0) * 4) = cs true P := by
  have := cs_drop0 (α := Prt) (o := true) (a := 0) (n := P.length) (xs := P ++ Q) (by simp)
  simpa using this
theorem csP {P Q : List Prt} : roifyL (((cs true (P ++ Q)).drop (0 + 0 * 4)).take ((P.length - 0) * 4)) = cs false P := by rw [tkP, cs_ro]
theorem snP {P Q : List Prt} : (0 + 0 * 4) + (P.length - 0) * 4 ≤ (cs true (P ++ Q)).length ∧ (((cs true (P ++ Q)).drop (0 + 0 * 4)).take ((P.length - 0) * 4)).all Cell.shal = true :=
  ⟨by rw [cs_len, List.length_append]; show _ ≤ (P.length + Q.length) * 4; omega, by rw [tkP]; exact cs_shal _⟩
abbrev byN (d : Df) (i : Nat) (h : i < d.idx.length) (row : List Vl) : List Vl := pkR (ptsO d d.idx[i].parts) row

set_option maxHeartbeats 2000000 in
set_option maxRecDepth 100000 in
theorem tx131 {d : Df} {i : Nat} {a b : List Vl} (hc : cdN d = 0 := by first | assumption | omega | (simp; done) | (simp; omega)) (hi : i < d.idx.length := by first | assumption | omega | (simp; done) | (simp; omega)) (hd : zDf d ≤ 2000000 := by first | assumption | omega | (simp; done) | (simp; omega)) (ha : a.length ≤ 2000000 := by first | assumption | omega | (simp; done) | (simp; omega)) (hb : b.length ≤ 2000000 := by first | assumption | omega | (simp; done) | (simp; omega)) : T 131 [.val true (dfC false d), aI (i : Nat), aE a, aE b] [vB (smR (byN d i hi a) (byN d i hi b))] [none, none, none, none] := by
  refine w_call md [] Tryz.func131 rfl ?_
  obtain ⟨q1, q2, q3, q4, q5, q6⟩ := zDf_b hd
  obtain ⟨_, hal, _⟩ := cd_all hc
  have hx1 := inB_iff.1 (bOf_t (hal.idx i hi)).len
  have hp1 := inB_iff.1 (cd_prt hc).len
  have l1 := ptsO_len (d := d) (l := d.idx[i].parts)
  have l2 := ptsO_len (d := d) (l := d.prim)
  have hI : T 160 [.val true (dfC false d), aI (i : Nat)] [vE (ptsO d d.idx[i].parts ++ ptsO d d.prim)] [none, none] := by
    have h := tx160 (d := d) (i := i)
    rwa [ixN_y hc (by omega) (by simpa using hi)] at h
  unfold byN
  generalize ptsO d d.idx[i].parts = P at *
  generalize ptsO d d.prim = Q at *
  have lpa := pkR_len (l := P) (r := a)
  have lpb := pkR_len (l := P) (r := b)
  repeat' ((conv => whnf); (first | (apply cx160; refine kl (hI) ?_) | refine And.intro ⟨by omega, by omega⟩ (Exists.intro _ (And.intro (rdI (i := i) (by omega) (by omega)) ?_)) | refine Exists.intro _ (Exists.intro P.length (Exists.intro _ (And.intro rfl (And.intro (bndN.trans (congrArg some l1.symm)) (And.intro (slP (by simp) (by omega)) ?_))))) | refine ⟨snP, _, csP, ?_⟩ | (apply cx80; refine kl (tx80 (l := P) (r := a)) ?_) | (apply cx80; refine kl (tx80 (l := P) (r := b)) ?_) | (apply cx136; refine kl (tx136 (a := pkR P a) (b := pkR P b)) ?_) | refine k0 ?_ | refine jA fun _ => ?_ | refine jB fun _ => ?_ | refine kC (fun _ => ?_) fun _ => ?_ | (apply cx160; refine kl tx160 ?_) | (apply cx80; refine kl tx80 ?_) | (apply cx136; refine kl tx136 ?_) | refine jst ?_ | exact ⟨rfl, rfl⟩ | exact jV | fail))
  all_goals first | exact ⟨vB1 (by assumption), rfl⟩ | exact ⟨vB0 (by assumption), rfl⟩

theorem cx131 {P : Program} {X : FuncId → List Arg → List (Bool × List Cell) → List (Option (List Cell)) → Prop} {a : List Arg} {Q : List (Bool × List Cell) → List (Option (List Cell)) → Prop} (h : ∃ b vals outs, a = b ∧ D P X (.call 131 b vals outs) ∧ Q vals outs) : CallS P X 131 a Q := ⟨h⟩

structure ClI (d : Df) (a b : List Vl) (i : Nat) (h : i < d.idx.length) : Prop where
  uni : d.idx[i].uniq = true
  by_ : byN d i h a = byN d i h b
/-- Rows are alike by an index that is unique. -/
abbrev Cla (d : Df) (a b : List Vl) : Prop := ∃ i, ∃ h : i < d.idx.length, ClI d a b i h
noncomputable def clN2 (d : Df) (a b : List Vl) : Bool := bOf (Cla d a b)

set_option maxHeartbeats 2000000 in
set_option maxRecDepth 100000 in
theorem tx81 {d : Df} {a b : List Vl} (hc : cdN d = 0 := by first | assumption | omega | (simp; done) | (simp; omega)) (hd : zDf d ≤ 2000000 := by first | assumption | omega | (simp; done) | (simp; omega)) (ha : a.length ≤ 2000000 := by first | assumption | omega | (simp; done) | (simp; omega)) (hb : b.length ≤ 2000000 := by first | assumption | omega | (simp; done) | (simp; omega)) : T 81 [.val true (dfC false d), aE a, aE b] [vB (clN2 d a b)] [none, none, none] := by
  refine w_call md [] Tryz.func81 rfl ?_
  obtain ⟨q1, q2, q3, q4, q5, q6⟩ := zDf_b hd
  repeat' ((conv => whnf); (first | refine k0 ?_ | refine jA fun _ => ?_ | refine jB fun _ => ?_ | refine kC (fun _ => ?_) fun _ => ?_ | (apply cx131; refine kl tx131 ?_) | refine jst ?_ | exact ⟨rfl, rfl⟩ | exact jV | fail))
  conv => whnf
  refine loopk (ι := Nat) (fun i => i ≤ d.idx.length ∧ ∀ j (h : j < d.idx.length), j < i → ¬ ClI d a b j h) (fun i => d.idx.length - i) (0) [1, 2, 3, 10, 11] (fun i => [(12, .v false [i6 i])]) [none, none, none, some fun _ => some (true, dfC false d)] ?_
  refine ⟨⟨by omega, by intros; omega⟩, ?_, fun i hi => ?_⟩
  · exact jw []
  · repeat' ((conv => whnf); (first | refine k0 ?_ | (apply cx131; refine kl tx131 ?_) | refine jst ?_ | exact ⟨rfl, rfl⟩ | exact jV | fail))
    conv => whnf
    refine ⟨fun hlt => ?_, fun hge => ?_⟩
    · have hi2 : i < d.idx.length := by omega
      have hS : T 131 [.val true (dfC false d), aI (i : Nat), aE a, aE b] [vB (smR (byN d i hi2 a) (byN d i hi2 b))] [none, none, none, none] := tx131 hc hi2
      repeat' ((conv => whnf); (first | refine k0 ?_ | refine jA fun _ => ?_ | refine jB fun _ => ?_ | refine kC (fun _ => ?_) fun _ => ?_ | (apply cx131; refine kl tx131 ?_) | refine jst ?_ | exact ⟨rfl, rfl⟩ | exact jV | fail))
      cases hu : d.idx[i].uniq
      · repeat' ((conv => whnf); (first | refine k0 ?_ | refine jA fun _ => ?_ | refine jB fun _ => ?_ | refine kC (fun _ => ?_) fun _ => ?_ | (apply cx131; refine kl tx131 ?_) | refine jst ?_ | exact ⟨rfl, rfl⟩ | exact jV | fail))
        refine ⟨⟨i + 1, by omega, all_suc hi.2 hi2 (fun q => bft hu q.uni)⟩, by simp only; omega, ?_⟩
        exact jw []
      · repeat' ((conv => whnf); (first | (apply cx131; refine kl (hS) ?_) | refine k0 ?_ | refine jA fun _ => ?_ | refine jB fun _ => ?_ | refine kC (fun _ => ?_) fun _ => ?_ | (apply cx131; refine kl tx131 ?_) | refine jst ?_ | exact ⟨rfl, rfl⟩ | exact jV | fail))
        · have hq : smR (byN d i hi2 a) (byN d i hi2 b) = true := by assumption
          exact ⟨vB1 (bOf_y ⟨i, hi2, hu, bOf_t hq⟩), rfl⟩
        · have hq : smR (byN d i hi2 a) (byN d i hi2 b) = false := by assumption
          refine ⟨⟨i + 1, by omega, all_suc hi.2 hi2 (fun q => bOf_f hq q.by_)⟩, by simp only; omega, ?_⟩
          exact jw []
    · obtain rfl : i = d.idx.length := by omega
      repeat' ((conv => whnf); (first | refine k0 ?_ | refine jA fun _ => ?_ | refine jB fun _ => ?_ | refine kC (fun _ => ?_) fun _ => ?_ | (apply cx131; refine kl tx131 ?_) | refine jst ?_ | exact ⟨rfl, rfl⟩ | exact jV | fail))
      exact ⟨vB0 (bOf_n fun q => by
        obtain ⟨j, hj, q⟩ := q
        exact hi.2 j hj hj q), rfl⟩

theorem cx81 {P : Program} {X : FuncId → List Arg → List (Bool × List Cell) → List (Option (List Cell)) → Prop} {a : List Arg} {Q : List (Bool × List Cell) → List (Option (List Cell)) → Prop} (h : ∃ b vals outs, a = b ∧ D P X (.call 81 b vals outs) ∧ Q vals outs) : CallS P X 81 a Q := ⟨h⟩

set_option maxHeartbeats 2000000 in
set_option maxRecDepth 100000 in
theorem tx90 {d : Df} {i : Nat} {row : List Vl} (hc : cdN d = 0 := by first | assumption | omega | (simp; done) | (simp; omega)) (hi : i < d.idx.length := by first | assumption | omega | (simp; done) | (simp; omega)) (hd : zDf d ≤ 2000000 := by first | assumption | omega | (simp; done) | (simp; omega)) (ha : row.length ≤ 2000000 := by first | assumption | omega | (simp; done) | (simp; omega)) : T 90 [.val true (dfC false d), aI (i : Nat), aE row] [vE (byN d i hi row)] [none, none, none] := by
  refine w_call md [] Tryz.func90 rfl ?_
  obtain ⟨q1, q2, q3, q4, q5, q6⟩ := zDf_b hd
  obtain ⟨_, hal, _⟩ := cd_all hc
  have hx := bOf_t (hal.idx i hi)
  have hx1 := inB_iff.1 hx.len
  have l1 := ptsO_len (d := d) (l := d.idx[i].parts)
  repeat' ((conv => whnf); (first | refine And.intro ⟨by omega, by omega⟩ (Exists.intro _ (And.intro (rdI (i := i) (by omega) (by omega)) ?_)) | (apply cx107; refine kl (tx107 (d := d) (l := d.idx[i].parts)) ?_) | (apply cx116; refine kl (tx116 (l := ptsO d d.idx[i].parts) (r := row)) ?_) | refine k0 ?_ | refine jA fun _ => ?_ | refine jB fun _ => ?_ | refine kC (fun _ => ?_) fun _ => ?_ | (apply cx107; refine kl tx107 ?_) | (apply cx116; refine kl tx116 ?_) | refine jst ?_ | exact ⟨rfl, rfl⟩ | exact jV | fail))

theorem cx90 {P : Program} {X : FuncId → List Arg → List (Bool × List Cell) → List (Option (List Cell)) → Prop} {a : List Arg} {Q : List (Bool × List Cell) → List (Option (List Cell)) → Prop} (h : ∃ b vals outs, a = b ∧ D P X (.call 90 b vals outs) ∧ Q vals outs) : CallS P X 90 a Q := ⟨h⟩

structure TkJ (d : Df) (rows : List (List Vl)) (row : List Vl) (i : Nat) (h : i < d.idx.length) (j : Nat) (hj : j < rows.length) : Prop where
  by_ : byN d i h rows[j] = byN d i h row
  ne : pkR (ppN d) rows[j] ≠ pkR (ppN d) row
structure TkI (d : Df) (rows : List (List Vl)) (row : List Vl) (i : Nat) (h : i < d.idx.length) : Prop where
  uni : d.idx[i].uniq = true
  ex : ∃ j, ∃ hj : j < rows.length, TkJ d rows row i h j hj
/-- A row of another key has the same of an index that is unique. -/
abbrev Tak (d : Df) (rows : List (List Vl)) (row : List Vl) : Prop := ∃ i, ∃ h : i < d.idx.length, TkI d rows row i h
noncomputable def tkN (d : Df) (rows : List (List Vl)) (row : List Vl) : Bool := bOf (Tak d rows row)

set_option maxHeartbeats 2000000 in
set_option maxRecDepth 100000 in
theorem tx45 {d : Df} {rows : List (List Vl)} {row : List Vl} (hc : cdN d = 0 := by first | assumption | omega | (simp; done) | (simp; omega)) (hd : zDf d ≤ 2000000 := by first | assumption | omega | (simp; done) | (simp; omega)) (hm : rows.length ≤ 2000000 ∧ ∀ j (hj : j < rows.length), rows[j].length ≤ 2000000 := by first | assumption | omega | (simp; done) | (simp; omega)) (hr : row.length ≤ 2000000 := by first | assumption | omega | (simp; done) | (simp; omega)) : T 45 [.val true (dfC false d), aE rows, aE row] [vB (tkN d rows row)] [none, none, none] := by
  refine w_call md [] Tryz.func45 rfl ?_
  obtain ⟨q1, q2, q3, q4, q5, q6⟩ := zDf_b hd
  obtain ⟨z3, z4⟩ := hm
  obtain ⟨_, hal, _⟩ := cd_all hc
  have hpl := ppN_len (d := d)
  have lpk := pkR_len (l := ppN d) (r := row)
  repeat' ((conv => whnf); (first | (apply cx69; refine kl (tx69 (d := d) (r := row)) ?_) | refine k0 ?_ | refine jA fun _ => ?_ | refine jB fun _ => ?_ | refine kC (fun _ => ?_) fun _ => ?_ | (apply cx69; refine kl tx69 ?_) | (apply cx90; refine kl tx90 ?_) | (apply cx89; refine kl tx89 ?_) | refine jst ?_ | exact ⟨rfl, rfl⟩ | exact jV | fail))
  conv => whnf
  refine loopk (ι := Nat) (fun i => i ≤ d.idx.length ∧ ∀ j (h : j < d.idx.length), j < i → ¬ TkI d rows row j h) (fun i => d.idx.length - i) (0) [1, 2, 3, 7] (fun i => [(8, .v false [i6 i])]) [none, none, none, some fun _ => some (true, dfC false d), some fun _ => nE (pkR (ppN d) row)] ?_
  refine ⟨⟨by omega, by intros; omega⟩, ?_, fun u hi => ?_⟩
  · exact jw []
  · repeat' ((conv => whnf); (first | refine k0 ?_ | (apply cx69; refine kl tx69 ?_) | (apply cx90; refine kl tx90 ?_) | (apply cx89; refine kl tx89 ?_) | refine jst ?_ | exact ⟨rfl, rfl⟩ | exact jV | fail))
    conv => whnf
    refine ⟨fun hlt => ?_, fun hge => ?_⟩
    · have hi2 : u < d.idx.length := by omega
      have lby : (byN d u hi2 row).length = _ := pkR_len
      have l1 := ptsO_len (d := d) (l := d.idx[u].parts)
      have hx1 := inB_iff.1 (bOf_t (hal.idx u hi2)).len
      repeat' ((conv => whnf); (first | refine And.intro ⟨by omega, by omega⟩ (Exists.intro _ (And.intro (rdI (i := u) (by omega) (by omega)) ?_)) | refine k0 ?_ | refine jA fun _ => ?_ | refine jB fun _ => ?_ | refine kC (fun _ => ?_) fun _ => ?_ | (apply cx69; refine kl tx69 ?_) | (apply cx90; refine kl tx90 ?_) | (apply cx89; refine kl tx89 ?_) | refine jst ?_ | exact ⟨rfl, rfl⟩ | exact jV | fail))
      cases hu : d.idx[u].uniq
      · repeat' ((conv => whnf); (first | refine k0 ?_ | refine jA fun _ => ?_ | refine jB fun _ => ?_ | refine kC (fun _ => ?_) fun _ => ?_ | (apply cx69; refine kl tx69 ?_) | (apply cx90; refine kl tx90 ?_) | (apply cx89; refine kl tx89 ?_) | refine jst ?_ | exact ⟨rfl, rfl⟩ | exact jV | fail))
        refine ⟨⟨u + 1, by omega, all_suc hi.2 hi2 (fun q => bft hu q.uni)⟩, by simp only; omega, ?_⟩
        exact jw []
      · repeat' ((conv => whnf); (first | (apply cx90; refine kl (tx90 (d := d) (i := u) (row := row) (hi := hi2)) ?_) | refine k0 ?_ | refine jA fun _ => ?_ | refine jB fun _ => ?_ | refine kC (fun _ => ?_) fun _ => ?_ | (apply cx69; refine kl tx69 ?_) | (apply cx90; refine kl tx90 ?_) | (apply cx89; refine kl tx89 ?_) | refine jst ?_ | exact ⟨rfl, rfl⟩ | exact jV | fail))
        conv => whnf
        refine loopk (ι := Nat) (fun i => i ≤ rows.length ∧ ∀ j (h : j < rows.length), j < i → ¬ TkJ d rows row u hi2 j h) (fun i => rows.length - i) (0) [1, 2, 3, 7, 8, 9] (fun i => [(10, .v false [i6 i])]) [none, none, none, some fun _ => some (true, dfC false d), some fun _ => nE (pkR (ppN d) row), some fun _ => nE (byN d u hi2 row)] ?_
        refine ⟨⟨by omega, by intros; omega⟩, ?_, fun k hk => ?_⟩
        · exact jw []
        · repeat' ((conv => whnf); (first | refine k0 ?_ | (apply cx69; refine kl tx69 ?_) | (apply cx90; refine kl tx90 ?_) | (apply cx89; refine kl tx89 ?_) | refine jst ?_ | exact ⟨rfl, rfl⟩ | exact jV | fail))
          conv => whnf
          refine ⟨fun hlt2 => ?_, fun hge2 => ?_⟩
          · have hk2 : k < rows.length := by omega
            have hz := z4 k hk2
            have lb2 : (byN d u hi2 rows[k]).length = _ := pkR_len
            have lp2 := pkR_len (l := ppN d) (r := rows[k])
            have hB : T 90 [.val true (dfC false d), aI (u : Nat), aE rows[k]] [vE (byN d u hi2 rows[k])] [none, none, none] := tx90 hc hi2
            have hS : T 89 [aE (byN d u hi2 rows[k]), aE (byN d u hi2 row)] [vB (smR (byN d u hi2 rows[k]) (byN d u hi2 row))] [none, none] := tx89
            have hS2 : T 89 [aE (pkR (ppN d) rows[k]), aE (pkR (ppN d) row)] [vB (smR (pkR (ppN d) rows[k]) (pkR (ppN d) row))] [none, none] := tx89
            cases e1 : smR (byN d u hi2 rows[k]) (byN d u hi2 row)
            · rw [e1] at hS
              repeat' ((conv => whnf); (first | (apply cx90; refine kl (hB) ?_) | (apply cx89; refine kl (hS) ?_) | refine k0 ?_ | refine jA fun _ => ?_ | refine jB fun _ => ?_ | refine kC (fun _ => ?_) fun _ => ?_ | (apply cx69; refine kl tx69 ?_) | (apply cx90; refine kl tx90 ?_) | (apply cx89; refine kl tx89 ?_) | refine jst ?_ | exact ⟨rfl, rfl⟩ | exact jV | fail))
              refine ⟨⟨k + 1, by omega, all_suc hk.2 hk2 (fun q => bOf_f e1 q.by_)⟩, by simp only; omega, ?_⟩
              exact jw []
            · rw [e1] at hS
              cases e2 : smR (pkR (ppN d) rows[k]) (pkR (ppN d) row)
              · rw [e2] at hS2
                repeat' ((conv => whnf); (first | (apply cx90; refine kl (hB) ?_) | (apply cx89; refine kl (hS) ?_) | (apply cx69; refine kl (tx69 (d := d) (r := rows[k])) ?_) | (apply cx89; refine kl (hS2) ?_) | refine k0 ?_ | refine jA fun _ => ?_ | refine jB fun _ => ?_ | refine kC (fun _ => ?_) fun _ => ?_ | (apply cx69; refine kl tx69 ?_) | (apply cx90; refine kl tx90 ?_) | (apply cx89; refine kl tx89 ?_) | refine jst ?_ | exact ⟨rfl, rfl⟩ | exact jV | fail))
                exact ⟨vB1 (bOf_y ⟨u, hi2, hu, k, hk2, bOf_t e1, bOf_f e2⟩), rfl⟩
              · rw [e2] at hS2
                repeat' ((conv => whnf); (first | (apply cx90; refine kl (hB) ?_) | (apply cx89; refine kl (hS) ?_) | (apply cx69; refine kl (tx69 (d := d) (r := rows[k])) ?_) | (apply cx89; refine kl (hS2) ?_) | refine k0 ?_ | refine jA fun _ => ?_ | refine jB fun _ => ?_ | refine kC (fun _ => ?_) fun _ => ?_ | (apply cx69; refine kl tx69 ?_) | (apply cx90; refine kl tx90 ?_) | (apply cx89; refine kl tx89 ?_) | refine jst ?_ | exact ⟨rfl, rfl⟩ | exact jV | fail))
                refine ⟨⟨k + 1, by omega, all_suc hk.2 hk2 (fun q => q.ne (bOf_t e2))⟩, by simp only; omega, ?_⟩
                exact jw []
          · obtain rfl : k = rows.length := by omega
            repeat' ((conv => whnf); (first | refine k0 ?_ | refine jA fun _ => ?_ | refine jB fun _ => ?_ | refine kC (fun _ => ?_) fun _ => ?_ | (apply cx69; refine kl tx69 ?_) | (apply cx90; refine kl tx90 ?_) | (apply cx89; refine kl tx89 ?_) | refine jst ?_ | exact ⟨rfl, rfl⟩ | exact jV | fail))
            refine ⟨⟨u + 1, by omega, all_suc hi.2 hi2 (fun q => by
              obtain ⟨j, hj, q⟩ := q.ex
              exact hk.2 j hj hj q)⟩, by simp only; omega, ?_⟩
            exact jw []
    · obtain rfl : u = d.idx.length := by omega
      repeat' ((conv => whnf); (first | refine k0 ?_ | refine jA fun _ => ?_ | refine jB fun _ => ?_ | refine kC (fun _ => ?_) fun _ => ?_ | (apply cx69; refine kl tx69 ?_) | (apply cx90; refine kl tx90 ?_) | (apply cx89; refine kl tx89 ?_) | refine jst ?_ | exact ⟨rfl, rfl⟩ | exact jV | fail))
      exact ⟨vB0 (bOf_n fun q => by
        obtain ⟨j, hj, q⟩ := q
        exact hi.2 j hj hj q), rfl⟩

theorem cx45 {P : Program} {X : FuncId → List Arg → List (Bool × List Cell) → List (Option (List Cell)) → Prop} {a : List Arg} {Q : List (Bool × List Cell) → List (Option (List Cell)) → Prop} (h : ∃ b vals outs, a = b ∧ D P X (.call 45 b vals outs) ∧ Q vals outs) : CallS P X 45 a Q := ⟨h⟩

end Go.Proofs.YtopnaijeicknoaaGreatDoor
