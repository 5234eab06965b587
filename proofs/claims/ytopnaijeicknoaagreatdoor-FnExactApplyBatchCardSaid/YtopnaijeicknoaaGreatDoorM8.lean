/- Functions of the program, each with what it gives back. -/
import Derived.Test.YtopnaijeicknoaaGreatDoorKe
import Derived.Test.YtopnaijeicknoaaGreatDoorChecked
import Derived.IntWalk
import Derived.Test.YtopnaijeicknoaaGreatDoorM5
namespace Go.Proofs.YtopnaijeicknoaaGreatDoor
open Go Go.RowKit Go.IntWalk
open Enc (sz cs)
attribute [local irreducible] IntKind.wrap

/-! ### A row put in its place -/
noncomputable abbrev sgU (l : List Prt) (row : List Vl) (rows : List (List Vl)) (i : Nat) : List (List Vl) × Bool := (rows.take i).foldl (sgS l row) ([], false)
theorem sgU_suc {l : List Prt} {row : List Vl} {rows : List (List Vl)} {i : Nat} {x y : List (List Vl) × Bool} (h : i < rows.length) (e : sgU l row rows i = x) (e2 : sgS l row x rows[i] = y) : sgU l row rows (i + 1) = y := by
  unfold sgU at *
  rw [take_one h, List.foldl_append, e]
  exact e2
theorem sgS_t1 {l : List Prt} {row r : List Vl} {out : List (List Vl)} (h : pkR l r = pkR l row) : sgS l row (out, true) r = (out, true) := by
  simp only [sgS, if_pos h, Bool.true_eq_false, false_and, if_false]
theorem sgS_t2 {l : List Prt} {row r : List Vl} {out : List (List Vl)} (h : ¬ pkR l r = pkR l row) : sgS l row (out, true) r = (out ++ [r], true) := by
  simp only [sgS, if_neg h, Bool.true_eq_false, false_and, if_false]
theorem sgS_f1 {l : List Prt} {row r : List Vl} {out : List (List Vl)} (h : ¬ pkR l r = pkR l row) (h2 : lkK l (pkR l r) (pkR l row) = true) : sgS l row (out, false) r = (out ++ [r], false) := by
  simp only [sgS, if_neg h, h2, Bool.true_eq_false, and_false, if_false]
theorem sgS_f2 {l : List Prt} {row r : List Vl} {out : List (List Vl)} (h : pkR l r = pkR l row) (h2 : lkK l (pkR l r) (pkR l row) = false) : sgS l row (out, false) r = (out ++ [row], true) := by
  simp only [sgS, if_pos h, h2, and_self, if_true]
theorem sgS_f3 {l : List Prt} {row r : List Vl} {out : List (List Vl)} (h : ¬ pkR l r = pkR l row) (h2 : lkK l (pkR l r) (pkR l row) = false) : sgS l row (out, false) r = (out ++ [row] ++ [r], true) := by
  simp only [sgS, if_neg h, h2, and_self, if_true]
theorem sgU_len {l : List Prt} {row : List Vl} {rows : List (List Vl)} : ∀ {i : Nat}, i ≤ rows.length → (sgU l row rows i).1.length ≤ 2 * i
  | 0, _ => by simp [sgU]
  | i + 1, h => by
    have ih := sgU_len (l := l) (row := row) (i := i) (Nat.le_of_succ_le h)
    rw [sgU_suc (x := sgU l row rows i) h rfl rfl]
    generalize sgU l row rows i = x at *
    unfold sgS
    simp only
    split <;> split <;> first | omega | (simp only [List.length_append, List.length_cons, List.length_nil]; omega)
theorem seS_n {l : List Prt} {row : List Vl} {rows out : List (List Vl)} {b : Bool} (h : sgU l row rows rows.length = (out, b)) : seS l rows row = fnS row (out, b) := by
  unfold sgU at h
  rw [List.take_length] at h
  unfold seS
  rw [h]
theorem vEl2 {out : List (List Vl)} {r : List Vl} {n : Nat} (h : n = out.length + 1 := by rfl) : [((false : Bool), [Cell.sl true n 1 (cs true (out ++ [r]))])] = [vE (fnS r (out, false))] := by
  subst h
  show _ = [((false : Bool), [Cell.sl true (out ++ [r]).length 1 (cs true (out ++ [r]))])]
  rw [List.length_append]; rfl
theorem cs_sn {out : List (List Vl)} {r : List Vl} : cs true out ++ [slE true r] ++ [] = cs true (out ++ [r]) := by
  rw [List.append_nil, Enc.app]; rfl
attribute [local irreducible] pkR ppN bOf fbN cdN rpN atN tkN moS moI clN2 lkK sgS

set_option maxHeartbeats 2000000 in
set_option maxRecDepth 100000 in
theorem tx46 {d : Df} {rows : List (List Vl)} {row : List Vl} (hd : zDf d ≤ 2000000 := by first | assumption | omega | (simp; done) | (simp; omega)) (hm : rows.length ≤ 2000000 ∧ ∀ j (hj : j < rows.length), rows[j].length ≤ 2000000 := by first | assumption | omega | (simp; done) | (simp; omega)) (hr : row.length ≤ 2000000 := by first | assumption | omega | (simp; done) | (simp; omega)) : T 46 [.val true (dfC false d), aE rows, aE row] [vE (seS (ppN d) rows row)] [none, none, none] := by
  refine w_call md [] Tryz.func46 rfl ?_
  obtain ⟨z3, z4⟩ := hm
  have hpl := ppN_len (d := d)
  have lp1 := pkR_len (l := (ppN d)) (r := row)
  repeat' ((conv => whnf); (first | (apply cx64; refine kl (tx64 (d := d)) ?_) | (apply cx69; refine kl (tx69 (d := d) (r := row)) ?_) | refine k0 ?_ | refine jA fun _ => ?_ | refine jB fun _ => ?_ | refine kC (fun _ => ?_) fun _ => ?_ | (apply cx64; refine kl tx64 ?_) | (apply cx69; refine kl tx69 ?_) | (apply cx68; refine kl tx68 ?_) | (apply cx89; refine kl tx89 ?_) | refine jst ?_ | exact ⟨rfl, rfl⟩ | exact jV | fail))
  conv => whnf
  refine loopk (ι := Nat × List (List Vl) × Bool) (fun i => i.1 ≤ rows.length ∧ sgU (ppN d) row rows i.1 = i.2) (fun i => rows.length - i.1) (0, [], false) [1, 2, 3, 8, 9] (fun i => [(7, .v false [.ref 4 0 i.2.1.length 1]), (10, .v false [b1 i.2.2]), (11, .v false [i6 i.1])]) [none, none, none, some fun _ => some (true, dfC false d), some fun i => nE i.2.1, some fun _ => nE (ppN d), some fun _ => nE (pkR (ppN d) row)] ?_
  refine ⟨⟨Nat.zero_le _, rfl⟩, ?_, fun z hz => ?_⟩
  · exact jw []
  · obtain ⟨i, out, put⟩ := z
    obtain ⟨hi, hx⟩ := hz
    simp only at hi hx
    have hol := sgU_len (l := (ppN d)) (row := row) hi
    rw [hx] at hol
    simp only at hol
    repeat' ((conv => whnf); (first | refine k0 ?_ | (apply cx64; refine kl tx64 ?_) | (apply cx69; refine kl tx69 ?_) | (apply cx68; refine kl tx68 ?_) | (apply cx89; refine kl tx89 ?_) | refine jst ?_ | exact ⟨rfl, rfl⟩ | exact jV | fail))
    conv => whnf
    refine ⟨fun hlt => ?_, fun hge => ?_⟩
    · have hi2 : i < rows.length := by omega
      have hzr := z4 i hi2
      have lp2 := pkR_len (l := (ppN d)) (r := rows[i])
      have hS : T 89 [aE (pkR (ppN d) rows[i]), aE (pkR (ppN d) row)] [vB (smR (pkR (ppN d) rows[i]) (pkR (ppN d) row))] [none, none] := tx89
      have hL : T 68 [aE (ppN d), aE (pkR (ppN d) rows[i]), aE (pkR (ppN d) row)] [vB (lkK (ppN d) (pkR (ppN d) rows[i]) (pkR (ppN d) row))] [none, none, none] := tx68
      cases e : smR (pkR (ppN d) rows[i]) (pkR (ppN d) row)
      · rw [e] at hS
        have e := bOf_f e
        cases put
        · cases e3 : lkK (ppN d) (pkR (ppN d) rows[i]) (pkR (ppN d) row)
          · rw [e3] at hL
            repeat' ((conv => whnf); (first | (apply cx69; refine kl (tx69 (d := d) (r := rows[i])) ?_) | (apply cx89; refine kl (hS) ?_) | refine And.intro ⟨by omega, by omega⟩ (Exists.intro _ (And.intro (rdI (i := i) (by omega) (by omega)) ?_)) | refine Exists.intro _ (Exists.intro (cs true (_ : List Vl)) (And.intro rfl (And.intro ⟨Nat.le_refl _, bgb (by omega), bg (by omega)⟩ (Exists.intro _ (And.intro ape (Exists.intro _ (And.intro (Nat.zero_add _) ?_))))))) | (apply cx68; refine kl (hL) ?_) | refine jap (m := 1) (N := [.ref 89 0 row.length 3]) (apR (o := true) (xs := out) ?_) | refine bstep (w_inE 91 89 (cs true (out)) row [] row.length 3 (cs1 := cs true (out ++ [row])) cs_sn) ?_ | refine jap (m := 1) (N := [.ref 93 0 rows[i].length 3]) (apR (o := true) (xs := out ++ [row]) ?_) | refine bstep (w_inE 95 93 (cs true (out ++ [row])) rows[i] [] rows[i].length 3 (cs1 := cs true (out ++ [row] ++ [rows[i]])) cs_sn) ?_ | refine k0 ?_ | refine jA fun _ => ?_ | refine jB fun _ => ?_ | refine kC (fun _ => ?_) fun _ => ?_ | (apply cx64; refine kl tx64 ?_) | (apply cx69; refine kl tx69 ?_) | (apply cx68; refine kl tx68 ?_) | (apply cx89; refine kl tx89 ?_) | refine jst ?_ | exact ⟨rfl, rfl⟩ | exact jV | fail))
            refine ⟨⟨(i + 1, out ++ [row] ++ [rows[i]], true), ⟨by simp only; omega, sgU_suc hi2 hx (sgS_f3 e e3)⟩⟩, by simp only; omega, ?_⟩
            exact jw []
          · rw [e3] at hL
            repeat' ((conv => whnf); (first | (apply cx69; refine kl (tx69 (d := d) (r := rows[i])) ?_) | (apply cx89; refine kl (hS) ?_) | refine And.intro ⟨by omega, by omega⟩ (Exists.intro _ (And.intro (rdI (i := i) (by omega) (by omega)) ?_)) | refine Exists.intro _ (Exists.intro (cs true (_ : List Vl)) (And.intro rfl (And.intro ⟨Nat.le_refl _, bgb (by omega), bg (by omega)⟩ (Exists.intro _ (And.intro ape (Exists.intro _ (And.intro (Nat.zero_add _) ?_))))))) | (apply cx68; refine kl (hL) ?_) | refine jap (m := 1) (N := [.ref 89 0 rows[i].length 3]) (apR (o := true) (xs := out) ?_) | refine bstep (w_inE 91 89 (cs true (out)) rows[i] [] rows[i].length 3 (cs1 := cs true (out ++ [rows[i]])) cs_sn) ?_ | refine k0 ?_ | refine jA fun _ => ?_ | refine jB fun _ => ?_ | refine kC (fun _ => ?_) fun _ => ?_ | (apply cx64; refine kl tx64 ?_) | (apply cx69; refine kl tx69 ?_) | (apply cx68; refine kl tx68 ?_) | (apply cx89; refine kl tx89 ?_) | refine jst ?_ | exact ⟨rfl, rfl⟩ | exact jV | fail))
            refine ⟨⟨(i + 1, out ++ [rows[i]], false), ⟨by simp only; omega, sgU_suc hi2 hx (sgS_f1 e e3)⟩⟩, by simp only; omega, ?_⟩
            exact jw []
        · repeat' ((conv => whnf); (first | (apply cx69; refine kl (tx69 (d := d) (r := rows[i])) ?_) | (apply cx89; refine kl (hS) ?_) | refine And.intro ⟨by omega, by omega⟩ (Exists.intro _ (And.intro (rdI (i := i) (by omega) (by omega)) ?_)) | refine Exists.intro _ (Exists.intro (cs true (_ : List Vl)) (And.intro rfl (And.intro ⟨Nat.le_refl _, bgb (by omega), bg (by omega)⟩ (Exists.intro _ (And.intro ape (Exists.intro _ (And.intro (Nat.zero_add _) ?_))))))) | refine jap (m := 1) (N := [.ref 89 0 rows[i].length 3]) (apR (o := true) (xs := out) ?_) | refine bstep (w_inE 91 89 (cs true (out)) rows[i] [] rows[i].length 3 (cs1 := cs true (out ++ [rows[i]])) cs_sn) ?_ | refine k0 ?_ | refine jA fun _ => ?_ | refine jB fun _ => ?_ | refine kC (fun _ => ?_) fun _ => ?_ | (apply cx64; refine kl tx64 ?_) | (apply cx69; refine kl tx69 ?_) | (apply cx68; refine kl tx68 ?_) | (apply cx89; refine kl tx89 ?_) | refine jst ?_ | exact ⟨rfl, rfl⟩ | exact jV | fail))
          refine ⟨⟨(i + 1, out ++ [rows[i]], true), ⟨by simp only; omega, sgU_suc hi2 hx (sgS_t2 e)⟩⟩, by simp only; omega, ?_⟩
          exact jw []
      · rw [e] at hS
        have e := bOf_t e
        cases put
        · have e3 : lkK (ppN d) (pkR (ppN d) rows[i]) (pkR (ppN d) row) = false := by rw [e]; exact lkK_ir
          rw [e3] at hL
          repeat' ((conv => whnf); (first | (apply cx69; refine kl (tx69 (d := d) (r := rows[i])) ?_) | (apply cx89; refine kl (hS) ?_) | refine And.intro ⟨by omega, by omega⟩ (Exists.intro _ (And.intro (rdI (i := i) (by omega) (by omega)) ?_)) | refine Exists.intro _ (Exists.intro (cs true (_ : List Vl)) (And.intro rfl (And.intro ⟨Nat.le_refl _, bgb (by omega), bg (by omega)⟩ (Exists.intro _ (And.intro ape (Exists.intro _ (And.intro (Nat.zero_add _) ?_))))))) | (apply cx68; refine kl (hL) ?_) | refine jap (m := 1) (N := [.ref 89 0 row.length 3]) (apR (o := true) (xs := out) ?_) | refine bstep (w_inE 91 89 (cs true (out)) row [] row.length 3 (cs1 := cs true (out ++ [row])) cs_sn) ?_ | refine k0 ?_ | refine jA fun _ => ?_ | refine jB fun _ => ?_ | refine kC (fun _ => ?_) fun _ => ?_ | (apply cx64; refine kl tx64 ?_) | (apply cx69; refine kl tx69 ?_) | (apply cx68; refine kl tx68 ?_) | (apply cx89; refine kl tx89 ?_) | refine jst ?_ | exact ⟨rfl, rfl⟩ | exact jV | fail))
          refine ⟨⟨(i + 1, out ++ [row], true), ⟨by simp only; omega, sgU_suc hi2 hx (sgS_f2 e e3)⟩⟩, by simp only; omega, ?_⟩
          exact jw []
        · repeat' ((conv => whnf); (first | (apply cx69; refine kl (tx69 (d := d) (r := rows[i])) ?_) | (apply cx89; refine kl (hS) ?_) | refine And.intro ⟨by omega, by omega⟩ (Exists.intro _ (And.intro (rdI (i := i) (by omega) (by omega)) ?_)) | refine Exists.intro _ (Exists.intro (cs true (_ : List Vl)) (And.intro rfl (And.intro ⟨Nat.le_refl _, bgb (by omega), bg (by omega)⟩ (Exists.intro _ (And.intro ape (Exists.intro _ (And.intro (Nat.zero_add _) ?_))))))) | refine k0 ?_ | refine jA fun _ => ?_ | refine jB fun _ => ?_ | refine kC (fun _ => ?_) fun _ => ?_ | (apply cx64; refine kl tx64 ?_) | (apply cx69; refine kl tx69 ?_) | (apply cx68; refine kl tx68 ?_) | (apply cx89; refine kl tx89 ?_) | refine jst ?_ | exact ⟨rfl, rfl⟩ | exact jV | fail))
          refine ⟨⟨(i + 1, out, true), ⟨by simp only; omega, sgU_suc hi2 hx (sgS_t1 e)⟩⟩, by simp only; omega, ?_⟩
          exact jw []
    · obtain rfl : i = rows.length := by omega
      have hn := seS_n hx
      cases put
      · repeat' ((conv => whnf); (first | refine Exists.intro _ (Exists.intro (cs true (_ : List Vl)) (And.intro rfl (And.intro ⟨Nat.le_refl _, bgb (by omega), bg (by omega)⟩ (Exists.intro _ (And.intro ape (Exists.intro _ (And.intro (Nat.zero_add _) ?_))))))) | refine jap (m := 1) (N := [.ref 8 0 row.length 3]) (apR (o := true) (xs := out) ?_) | refine bstep (w_inE 10 8 (cs true (out)) row [] row.length 3 (cs1 := cs true (out ++ [row])) cs_sn) ?_ | refine k0 ?_ | refine jA fun _ => ?_ | refine jB fun _ => ?_ | refine kC (fun _ => ?_) fun _ => ?_ | (apply cx64; refine kl tx64 ?_) | (apply cx69; refine kl tx69 ?_) | (apply cx68; refine kl tx68 ?_) | (apply cx89; refine kl tx89 ?_) | refine jst ?_ | exact ⟨rfl, rfl⟩ | exact jV | fail))
        exact ⟨by rw [hn]; exact vEl2, rfl⟩
      · repeat' ((conv => whnf); (first | refine k0 ?_ | refine jA fun _ => ?_ | refine jB fun _ => ?_ | refine kC (fun _ => ?_) fun _ => ?_ | (apply cx64; refine kl tx64 ?_) | (apply cx69; refine kl tx69 ?_) | (apply cx68; refine kl tx68 ?_) | (apply cx89; refine kl tx89 ?_) | refine jst ?_ | exact ⟨rfl, rfl⟩ | exact jV | fail))
        exact ⟨by rw [hn]; rfl, rfl⟩

theorem cx46 {P : Program} {X : FuncId → List Arg → List (Bool × List Cell) → List (Option (List Cell)) → Prop} {a : List Arg} {Q : List (Bool × List Cell) → List (Option (List Cell)) → Prop} (h : ∃ b vals outs, a = b ∧ D P X (.call 46 b vals outs) ∧ Q vals outs) : CallS P X 46 a Q := ⟨h⟩

end Go.Proofs.YtopnaijeicknoaaGreatDoor
