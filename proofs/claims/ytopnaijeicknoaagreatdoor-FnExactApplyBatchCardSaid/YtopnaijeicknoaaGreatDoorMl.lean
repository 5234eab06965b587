/- Functions of the program, each with what it gives back. -/
import Derived.Test.YtopnaijeicknoaaGreatDoorKe
import Derived.Test.YtopnaijeicknoaaGreatDoorChecked
import Derived.IntWalk
import Derived.Test.YtopnaijeicknoaaGreatDoorMk
namespace Go.Proofs.YtopnaijeicknoaaGreatDoor
open Go Go.RowKit Go.IntWalk
open Enc (sz cs)
attribute [local irreducible] IntKind.wrap

attribute [local irreducible] fbN cdN fstI
theorem eqV' (a b c d : Int) (s t : ByteArray) : eqStruct Tryz.prog 131 [i6 a, i6 c, s1 s] [i6 b, i6 d, s1 t] = (match (some (a == b) : Option Bool) with | some true => (match (some (c == d) : Option Bool) with | some true => (match (some (s == t) : Option Bool) with | some true => some true | some false => some false | none => none) | some false => some false | none => none) | some false => some false | none => none) := by kernel_rfl
theorem ba_y (s : ByteArray) : (s == s) = true := by
  obtain ⟨a⟩ := s
  show (a == a) = true
  exact beq_self_eq_true a
theorem ba_n {s t : ByteArray} (h : s ≠ t) : (s == t) = false := by
  obtain ⟨a⟩ := s
  obtain ⟨b⟩ := t
  show (a == b) = false
  exact beq_eq_false_iff_ne.2 fun e => h (by rw [e])
theorem eqV_y {x y : Vl} (h : x = y) : eqStruct Tryz.prog 131 (vlC x) (vlC y) = some true := by
  subst h
  rw [eqV', beq_self_eq_true, beq_self_eq_true, ba_y]
theorem eqV_n {x y : Vl} (h : x ≠ y) : eqStruct Tryz.prog 131 (vlC x) (vlC y) = some false := by
  rw [eqV']
  obtain ⟨a, c, s⟩ := x
  obtain ⟨b, d, t⟩ := y
  simp only
  by_cases e1 : a = b
  · by_cases e2 : c = d
    · by_cases e3 : s = t
      · subst e1 e2 e3; exact absurd rfl h
      · rw [beq_iff_eq.2 e1, beq_iff_eq.2 e2, ba_n e3]
    · rw [beq_iff_eq.2 e1, beq_eq_false_iff_ne.2 e2]
  · rw [beq_eq_false_iff_ne.2 e1]
noncomputable abbrev smR (a b : List Vl) : Bool := bOf (a = b)

set_option maxRecDepth 100000 in
theorem tx136 {a b : List Vl} (ha : a.length ≤ 2000000 := by first | assumption | omega | (simp; done) | (simp; omega)) (hb : b.length ≤ 2000000 := by first | assumption | omega | (simp; done) | (simp; omega)) : T 136 [aE a, aE b] [vB (smR a b)] [none, none] := by
  refine w_call md [] Tryz.func136 rfl ?_
  by_cases hl : a.length = b.length
  · repeat' ((conv => whnf); (first | refine k0 ?_ | refine jA fun _ => ?_ | refine jB fun _ => ?_ | refine kC (fun _ => ?_) fun _ => ?_ | refine jst ?_ | exact ⟨rfl, rfl⟩ | exact jV | fail))
    conv => whnf
    refine loopk (ι := Nat) (fun i => i ≤ a.length ∧ ∀ j (h : j < a.length), j < i → a[j] = b[j]) (fun i => a.length - i) (0) [0, 1, 12] (fun i => [(13, .v false [i6 i])]) [none, none] ?_
    refine ⟨⟨by omega, by intros; omega⟩, ?_, fun i hi => ?_⟩
    · exact jw []
    · repeat' ((conv => whnf); (first | refine k0 ?_ | refine jst ?_ | exact ⟨rfl, rfl⟩ | exact jV | fail))
      conv => whnf
      refine ⟨fun hlt => ?_, fun hge => ?_⟩
      · have hi2 : i < a.length := by omega
        have hi3 : i < b.length := by omega
        by_cases e : a[i] = b[i]
        · repeat' ((conv => whnf); (first | refine ko (eqV_y e) ?_ | refine k0 ?_ | refine jA fun _ => ?_ | refine jB fun _ => ?_ | refine kC (fun _ => ?_) fun _ => ?_ | refine jst ?_ | exact ⟨rfl, rfl⟩ | exact jV | fail))
          refine ⟨⟨i + 1, by omega, all_suc hi.2 hi2 e⟩, by simp only; omega, ?_⟩
          exact jw []
        · repeat' ((conv => whnf); (first | refine ko (eqV_n e) ?_ | refine k0 ?_ | refine jA fun _ => ?_ | refine jB fun _ => ?_ | refine kC (fun _ => ?_) fun _ => ?_ | refine jst ?_ | exact ⟨rfl, rfl⟩ | exact jV | fail))
          exact ⟨vB0 (bOf_n fun q => e (by subst q; rfl)), rfl⟩
      · obtain rfl : i = a.length := by omega
        repeat' ((conv => whnf); (first | refine k0 ?_ | refine jA fun _ => ?_ | refine jB fun _ => ?_ | refine kC (fun _ => ?_) fun _ => ?_ | refine jst ?_ | exact ⟨rfl, rfl⟩ | exact jV | fail))
        exact ⟨vB1 (bOf_y (List.ext_getElem hl fun j h1 h2 => hi.2 j h1 h1)), rfl⟩
  · repeat' ((conv => whnf); (first | refine k0 ?_ | refine jA fun _ => ?_ | refine jB fun _ => ?_ | refine kC (fun _ => ?_) fun _ => ?_ | refine jst ?_ | exact ⟨rfl, rfl⟩ | exact jV | fail))
    exact ⟨vB0 (bOf_n fun e => hl (by rw [e])), rfl⟩

theorem cx136 {P : Program} {X : FuncId → List Arg → List (Bool × List Cell) → List (Option (List Cell)) → Prop} {a : List Arg} {Q : List (Bool × List Cell) → List (Option (List Cell)) → Prop} (h : ∃ b vals outs, a = b ∧ D P X (.call 136 b vals outs) ∧ Q vals outs) : CallS P X 136 a Q := ⟨h⟩

set_option maxRecDepth 100000 in
theorem tx89 {a b : List Vl} (ha : a.length ≤ 2000000 := by first | assumption | omega | (simp; done) | (simp; omega)) (hb : b.length ≤ 2000000 := by first | assumption | omega | (simp; done) | (simp; omega)) : T 89 [aE a, aE b] [vB (smR a b)] [none, none] := by
  refine w_call md [] Tryz.func89 rfl ?_
  by_cases hl : a.length = b.length
  · repeat' ((conv => whnf); (first | refine k0 ?_ | refine jA fun _ => ?_ | refine jB fun _ => ?_ | refine kC (fun _ => ?_) fun _ => ?_ | refine jst ?_ | exact ⟨rfl, rfl⟩ | exact jV | fail))
    conv => whnf
    refine loopk (ι := Nat) (fun i => i ≤ a.length ∧ ∀ j (h : j < a.length), j < i → a[j] = b[j]) (fun i => a.length - i) (0) [0, 1] (fun i => [(5, .v false [i6 i])]) [none, none] ?_
    refine ⟨⟨by omega, by intros; omega⟩, ?_, fun i hi => ?_⟩
    · exact jw []
    · repeat' ((conv => whnf); (first | refine k0 ?_ | refine jst ?_ | exact ⟨rfl, rfl⟩ | exact jV | fail))
      conv => whnf
      refine ⟨fun hlt => ?_, fun hge => ?_⟩
      · have hi2 : i < a.length := by omega
        have hi3 : i < b.length := by omega
        by_cases e : a[i] = b[i]
        · repeat' ((conv => whnf); (first | refine ko (eqV_y e) ?_ | refine k0 ?_ | refine jA fun _ => ?_ | refine jB fun _ => ?_ | refine kC (fun _ => ?_) fun _ => ?_ | refine jst ?_ | exact ⟨rfl, rfl⟩ | exact jV | fail))
          refine ⟨⟨i + 1, by omega, all_suc hi.2 hi2 e⟩, by simp only; omega, ?_⟩
          exact jw []
        · repeat' ((conv => whnf); (first | refine ko (eqV_n e) ?_ | refine k0 ?_ | refine jA fun _ => ?_ | refine jB fun _ => ?_ | refine kC (fun _ => ?_) fun _ => ?_ | refine jst ?_ | exact ⟨rfl, rfl⟩ | exact jV | fail))
          exact ⟨vB0 (bOf_n fun q => e (by subst q; rfl)), rfl⟩
      · obtain rfl : i = a.length := by omega
        repeat' ((conv => whnf); (first | refine k0 ?_ | refine jA fun _ => ?_ | refine jB fun _ => ?_ | refine kC (fun _ => ?_) fun _ => ?_ | refine jst ?_ | exact ⟨rfl, rfl⟩ | exact jV | fail))
        exact ⟨vB1 (bOf_y (List.ext_getElem hl fun j h1 h2 => hi.2 j h1 h1)), rfl⟩
  · repeat' ((conv => whnf); (first | refine k0 ?_ | refine jA fun _ => ?_ | refine jB fun _ => ?_ | refine kC (fun _ => ?_) fun _ => ?_ | refine jst ?_ | exact ⟨rfl, rfl⟩ | exact jV | fail))
    exact ⟨vB0 (bOf_n fun e => hl (by rw [e])), rfl⟩

theorem cx89 {P : Program} {X : FuncId → List Arg → List (Bool × List Cell) → List (Option (List Cell)) → Prop} {a : List Arg} {Q : List (Bool × List Cell) → List (Option (List Cell)) → Prop} (h : ∃ b vals outs, a = b ∧ D P X (.call 89 b vals outs) ∧ Q vals outs) : CallS P X 89 a Q := ⟨h⟩

abbrev v0 : Vl := ⟨0, 0, ⟨#[]⟩⟩
abbrev c0 : Cl := ⟨⟨#[]⟩, 0, false⟩
/-- A part of a table's plan. -/
def ptO (d : Df) (p : By) : Prt := ⟨p.col, (d.cols.getD p.col.toNat c0).type, (d.cols.getD p.col.toNat c0).null, p.desc⟩
theorem ptO_at {d : Df} {p : By} (h : p.col.toNat < d.cols.length) : ptO d p = ⟨p.col, d.cols[p.col.toNat].type, d.cols[p.col.toNat].null, p.desc⟩ := by
  unfold ptO; rw [List.getD_eq_getElem?_getD, List.getElem?_eq_getElem h]; rfl
def ptsO (d : Df) (l : List By) : List Prt := l.map (ptO d)
theorem ptsO_len {d : Df} {l : List By} : (ptsO d l).length = l.length := List.length_map _
theorem ptsO_take {d : Df} {l : List By} {i : Nat} (h : i < l.length) (h2 : l[i].col.toNat < d.cols.length) : (ptsO d l).take (i + 1) = (ptsO d l).take i ++ [⟨l[i].col, d.cols[l[i].col.toNat].type, d.cols[l[i].col.toNat].null, l[i].desc⟩] := by
  rw [take_one (by rw [ptsO_len]; exact h), ← ptO_at h2]
  simp only [ptsO, List.getElem_map]
theorem PrtOk.at' {n : Nat} {l : List By} (h : PrtOk n l) {i : Nat} (hi : i < l.length) : 0 ≤ l[i].col ∧ l[i].col.toNat < n := by
  have := inB_iff.1 (h.prt i hi).1
  omega
theorem cd_prt {d : Df} (h : cdN d = 0) : PrtOk d.cols.length d.prim := by
  cases h1 : nmsOk d with
  | false => rw [cdN_1 h1] at h; cases h
  | true =>
    cases h2 : typOk d with
    | false => rw [cdN_2 h1 h2] at h; cases h
    | true =>
      cases h3 : oncOk d with
      | false => rw [cdN_3 h1 h2 h3] at h; cases h
      | true =>
        by_cases h4 : 2 < d.idx.length
        · rw [cdN_6 h1 h2 h3 h4] at h; cases h
        · cases h5 : allOk d with
          | false => rw [cdN_5 h1 h2 h3 h4 h5] at h; cases h
          | true => exact bOf_t (bOf_t h5).prim
noncomputable def ppN (d : Df) : List Prt := if cdN d = 0 then ptsO d d.prim else []
theorem ppN_y {d : Df} (h : cdN d = 0) : ppN d = ptsO d d.prim := if_pos h
theorem ppN_n {d : Df} (h : ¬ cdN d = 0) : ppN d = [] := if_neg h
theorem ppN_len {d : Df} : (ppN d).length ≤ 2 := by
  by_cases h : cdN d = 0
  · rw [ppN_y h, ptsO_len]
    have := inB_iff.1 (cd_prt h).len
    omega
  · rw [ppN_n h]; exact Nat.zero_le _
def pkV (r : List Vl) (p : Prt) : Vl := if inB p.col 0 ((r.length : Int) - 1) = true then r.getD p.col.toNat v0 else v0
theorem pkV_y {r : List Vl} {p : Prt} (h : inB p.col 0 ((r.length : Int) - 1) = true) (h2 : p.col.toNat < r.length) : pkV r p = r[p.col.toNat] := by
  unfold pkV; rw [if_pos h, List.getD_eq_getElem?_getD, List.getElem?_eq_getElem h2]; rfl
theorem pkV_n {r : List Vl} {p : Prt} (h : inB p.col 0 ((r.length : Int) - 1) = false) : pkV r p = v0 := by
  unfold pkV; rw [if_neg (by rw [h]; decide)]
/-- The values of a plan's parts. -/
def pkR (l : List Prt) (r : List Vl) : List Vl := l.map (pkV r)
theorem pkR_len {l : List Prt} {r : List Vl} : (pkR l r).length = l.length := List.length_map _
theorem pkR_take {l : List Prt} {r : List Vl} {i : Nat} (h : i < l.length) {v : Vl} (hv : pkV r l[i] = v) : (pkR l r).take (i + 1) = (pkR l r).take i ++ [v] := by
  rw [take_one (by rw [pkR_len]; exact h), ← hv]
  simp only [pkR, List.getElem_map]
theorem tkl {α : Type} {l : List α} {i n : Nat} (h : l.length = n) (hi : i ≤ n) : (l.take i).length = i := by rw [List.length_take]; omega

set_option maxHeartbeats 2000000 in
set_option maxRecDepth 100000 in
theorem tx124 {d : Df} {l : List By} (hd : zDf d ≤ 2000000 := by first | assumption | omega | (simp; done) | (simp; omega)) (hp : PrtOk d.cols.length l := by first | assumption | omega | (simp; done) | (simp; omega)) : T 124 [.val true (dfC false d), aE l] [vE (ptsO d l)] [none, none] := by
  refine w_call md [] Tryz.func124 rfl ?_
  obtain ⟨q1, q2, q3, q4, q5, q6⟩ := zDf_b hd
  have hl := inB_iff.1 hp.len
  repeat' ((conv => whnf); (first | refine k0 ?_ | refine jA fun _ => ?_ | refine jB fun _ => ?_ | refine kC (fun _ => ?_) fun _ => ?_ | refine jst ?_ | exact ⟨rfl, rfl⟩ | exact jV | fail))
  conv => whnf
  refine loopk (ι := Nat) (fun i => i ≤ l.length) (fun i => l.length - i) (0) [2, 9, 10] (fun i => [(5, .v false [.ref 3 0 ((ptsO d l).take i).length 4]), (11, .v false [i6 i])]) [none, none, none, some fun i => nE ((ptsO d l).take i)] ?_
  refine ⟨by omega, ?_, fun a ha => ?_⟩
  · exact (w_virt 5 4 rfl rfl).trans (jw [])
  · have htl := tkl (l := ptsO d l) (i := a) ptsO_len ha
    repeat' ((conv => whnf); (first | refine k0 ?_ | refine jst ?_ | exact ⟨rfl, rfl⟩ | exact jV | fail))
    conv => whnf
    refine ⟨fun hlt => ?_, fun hge => ?_⟩
    · have ha2 : a < l.length := by omega
      obtain ⟨h1, h2⟩ := hp.at' ha2
      repeat' ((conv => whnf); (first | refine And.intro ⟨by omega, by omega⟩ (Exists.intro _ (And.intro (rdI (i := l[a].col.toNat) (by omega) (by omega)) ?_)) | refine jap (N := cs true ([⟨l[a].col, d.cols[l[a].col.toNat].type, d.cols[l[a].col.toNat].null, l[a].desc⟩] : List Prt)) (apE ?_) | refine k0 ?_ | refine jA fun _ => ?_ | refine jB fun _ => ?_ | refine kC (fun _ => ?_) fun _ => ?_ | refine jst ?_ | exact ⟨rfl, rfl⟩ | exact jV | fail))
      refine ⟨⟨a + 1, by omega⟩, by simp only; omega, ?_⟩
      exact w_autoX [] (by (conv => whnf); exact And.intro (by kernel_rfl) (And.intro (by kernel_rfl) (by repeat' (first | (with_reducible exact rfl) | ((conv => whnf); first | exact trivial | exact (by rw [ptsO_take ha2 h2]; exact ⟨rfl, cs_clo _, rfl⟩) | exact (by rw [ptsO_take ha2 h2]; rfl) | exact rfl | exact tvi (by first | omega | (dsimp only; omega) | (simp; done)) | exact tvr (by first | omega | (dsimp only; omega) | (simp; done) | (simp; omega)) | exact ⟨rfl, clo_i, by first | rfl | rw [List.take_length] | assumption⟩ | refine And.intro ?_ ?_)))))
    · obtain rfl : a = l.length := by omega
      have e : (ptsO d l).take l.length = ptsO d l := by rw [← ptsO_len (d := d)]; exact List.take_length
      repeat' ((conv => whnf); (first | refine k0 ?_ | refine jA fun _ => ?_ | refine jB fun _ => ?_ | refine kC (fun _ => ?_) fun _ => ?_ | refine jst ?_ | exact ⟨rfl, rfl⟩ | exact jV | fail))
      exact ⟨by rw [e]; rfl, rfl⟩

theorem cx124 {P : Program} {X : FuncId → List Arg → List (Bool × List Cell) → List (Option (List Cell)) → Prop} {a : List Arg} {Q : List (Bool × List Cell) → List (Option (List Cell)) → Prop} (h : ∃ b vals outs, a = b ∧ D P X (.call 124 b vals outs) ∧ Q vals outs) : CallS P X 124 a Q := ⟨h⟩

set_option maxRecDepth 100000 in
theorem tx110 {d : Df} {p : By} (hd : zDf d ≤ 2000000 := by first | assumption | omega | (simp; done) | (simp; omega)) (h1 : 0 ≤ p.col := by first | assumption | omega | (simp; done) | (simp; omega)) (h2 : p.col.toNat < d.cols.length := by first | assumption | omega | (simp; done) | (simp; omega)) : T 110 [.val true (dfC false d), aI p.col, aB p.desc] [(true, prtC (ptO d p))] [none, none, none] := by
  refine w_call md [] Tryz.func110 rfl ?_
  obtain ⟨q1, q2, q3, q4, q5, q6⟩ := zDf_b hd
  rw [ptO_at h2]
  repeat' ((conv => whnf); (first | refine And.intro ⟨by omega, by omega⟩ (Exists.intro _ (And.intro (rdI (i := p.col.toNat) (by omega) (by omega)) ?_)) | refine k0 ?_ | refine jA fun _ => ?_ | refine jB fun _ => ?_ | refine kC (fun _ => ?_) fun _ => ?_ | refine jst ?_ | exact ⟨rfl, rfl⟩ | exact jV | fail))

theorem cx110 {P : Program} {X : FuncId → List Arg → List (Bool × List Cell) → List (Option (List Cell)) → Prop} {a : List Arg} {Q : List (Bool × List Cell) → List (Option (List Cell)) → Prop} (h : ∃ b vals outs, a = b ∧ D P X (.call 110 b vals outs) ∧ Q vals outs) : CallS P X 110 a Q := ⟨h⟩

set_option maxHeartbeats 2000000 in
set_option maxRecDepth 100000 in
theorem tx107 {d : Df} {l : List By} (hd : zDf d ≤ 2000000 := by first | assumption | omega | (simp; done) | (simp; omega)) (hp : PrtOk d.cols.length l := by first | assumption | omega | (simp; done) | (simp; omega)) : T 107 [.val true (dfC false d), aE l] [vE (ptsO d l)] [none, none] := by
  refine w_call md [] Tryz.func107 rfl ?_
  obtain ⟨q1, q2, q3, q4, q5, q6⟩ := zDf_b hd
  have hl := inB_iff.1 hp.len
  repeat' ((conv => whnf); (first | refine k0 ?_ | refine jA fun _ => ?_ | refine jB fun _ => ?_ | refine kC (fun _ => ?_) fun _ => ?_ | (apply cx110; refine kl tx110 ?_) | refine jst ?_ | exact ⟨rfl, rfl⟩ | exact jV | fail))
  conv => whnf
  refine loopk (ι := Nat) (fun i => i ≤ l.length) (fun i => l.length - i) (0) [1, 2] (fun i => [(5, .v false [.ref 3 0 ((ptsO d l).take i).length 4]), (6, .v false [i6 i])]) [none, none, none, some fun i => nE ((ptsO d l).take i)] ?_
  refine ⟨by omega, ?_, fun a ha => ?_⟩
  · exact jw []
  · have htl := tkl (l := ptsO d l) (i := a) ptsO_len ha
    repeat' ((conv => whnf); (first | refine k0 ?_ | (apply cx110; refine kl tx110 ?_) | refine jst ?_ | exact ⟨rfl, rfl⟩ | exact jV | fail))
    conv => whnf
    refine ⟨fun hlt => ?_, fun hge => ?_⟩
    · have ha2 : a < l.length := by omega
      obtain ⟨h1, h2⟩ := hp.at' ha2
      repeat' ((conv => whnf); (first | (apply cx110; refine kl (tx110 (d := d) (p := l[a])) ?_) | refine jap (N := cs true ([ptO d l[a]] : List Prt)) (apE ?_) | refine k0 ?_ | refine jA fun _ => ?_ | refine jB fun _ => ?_ | refine kC (fun _ => ?_) fun _ => ?_ | (apply cx110; refine kl tx110 ?_) | refine jst ?_ | exact ⟨rfl, rfl⟩ | exact jV | fail))
      refine ⟨⟨a + 1, by omega⟩, by simp only; omega, ?_⟩
      exact w_autoX [] (by (conv => whnf); exact And.intro (by kernel_rfl) (And.intro (by kernel_rfl) (by repeat' (first | (with_reducible exact rfl) | ((conv => whnf); first | exact trivial | exact (by rw [ptsO_take ha2 h2, ← ptO_at h2]; exact ⟨rfl, cs_clo _, rfl⟩) | exact (by rw [ptsO_take ha2 h2, ← ptO_at h2]; rfl) | exact rfl | exact tvi (by first | omega | (dsimp only; omega) | (simp; done)) | exact tvr (by first | omega | (dsimp only; omega) | (simp; done) | (simp; omega)) | exact ⟨rfl, clo_i, by first | rfl | rw [List.take_length] | assumption⟩ | refine And.intro ?_ ?_)))))
    · obtain rfl : a = l.length := by omega
      have e : (ptsO d l).take l.length = ptsO d l := by rw [← ptsO_len (d := d)]; exact List.take_length
      repeat' ((conv => whnf); (first | refine k0 ?_ | refine jA fun _ => ?_ | refine jB fun _ => ?_ | refine kC (fun _ => ?_) fun _ => ?_ | (apply cx110; refine kl tx110 ?_) | refine jst ?_ | exact ⟨rfl, rfl⟩ | exact jV | fail))
      exact ⟨by rw [e]; rfl, rfl⟩

theorem cx107 {P : Program} {X : FuncId → List Arg → List (Bool × List Cell) → List (Option (List Cell)) → Prop} {a : List Arg} {Q : List (Bool × List Cell) → List (Option (List Cell)) → Prop} (h : ∃ b vals outs, a = b ∧ D P X (.call 107 b vals outs) ∧ Q vals outs) : CallS P X 107 a Q := ⟨h⟩

attribute [local irreducible] ptsO ptO

set_option maxRecDepth 100000 in
theorem tx76 {d : Df} (hd : zDf d ≤ 2000000 := by first | assumption | omega | (simp; done) | (simp; omega)) : T 76 [.val true (dfC false d)] [vE (ppN d)] [none] := by
  refine w_call md [[4]] Tryz.func76 rfl ?_
  by_cases h : cdN d = 0
  · have hp := cd_prt h
    rw [ppN_y h]
    have hC : T 74 [.val true (dfC false d)] [vI 0] [none] := by
      have h2 := tx74 (d := d)
      rwa [h] at h2
    repeat' ((conv => whnf); (first | (apply cx74; refine kl (hC) ?_) | (apply cx124; refine kl (tx124 (d := d) (l := d.prim)) ?_) | refine k0 ?_ | refine jA fun _ => ?_ | refine jB fun _ => ?_ | refine kC (fun _ => ?_) fun _ => ?_ | (apply cx74; refine kl tx74 ?_) | (apply cx124; refine kl tx124 ?_) | refine jst ?_ | exact ⟨rfl, rfl⟩ | exact jV | fail))
  · rw [ppN_n h]
    repeat' ((conv => whnf); (first | (apply cx74; refine kl (tx74 (d := d)) ?_) | refine k0 ?_ | refine jA fun _ => ?_ | refine jB fun _ => ?_ | refine kC (fun _ => ?_) fun _ => ?_ | (apply cx74; refine kl tx74 ?_) | (apply cx124; refine kl tx124 ?_) | refine jst ?_ | exact ⟨rfl, rfl⟩ | exact jV | fail))

theorem cx76 {P : Program} {X : FuncId → List Arg → List (Bool × List Cell) → List (Option (List Cell)) → Prop} {a : List Arg} {Q : List (Bool × List Cell) → List (Option (List Cell)) → Prop} (h : ∃ b vals outs, a = b ∧ D P X (.call 76 b vals outs) ∧ Q vals outs) : CallS P X 76 a Q := ⟨h⟩

set_option maxRecDepth 100000 in
theorem tx64 {d : Df} (hd : zDf d ≤ 2000000 := by first | assumption | omega | (simp; done) | (simp; omega)) : T 64 [.val true (dfC false d)] [vE (ppN d)] [none] := by
  refine w_call md [] Tryz.func64 rfl ?_
  by_cases h : cdN d = 0
  · have hp := cd_prt h
    rw [ppN_y h]
    have hC : T 63 [.val true (dfC false d)] [vI 0] [none] := by
      have h2 := tx63 (d := d)
      rwa [h] at h2
    repeat' ((conv => whnf); (first | (apply cx63; refine kl (hC) ?_) | (apply cx107; refine kl (tx107 (d := d) (l := d.prim)) ?_) | refine k0 ?_ | refine jA fun _ => ?_ | refine jB fun _ => ?_ | refine kC (fun _ => ?_) fun _ => ?_ | (apply cx63; refine kl tx63 ?_) | (apply cx107; refine kl tx107 ?_) | refine jst ?_ | exact ⟨rfl, rfl⟩ | exact jV | fail))
  · rw [ppN_n h]
    repeat' ((conv => whnf); (first | (apply cx63; refine kl (tx63 (d := d)) ?_) | refine k0 ?_ | refine jA fun _ => ?_ | refine jB fun _ => ?_ | refine kC (fun _ => ?_) fun _ => ?_ | (apply cx63; refine kl tx63 ?_) | (apply cx107; refine kl tx107 ?_) | refine jst ?_ | exact ⟨rfl, rfl⟩ | exact jV | fail))

theorem cx64 {P : Program} {X : FuncId → List Arg → List (Bool × List Cell) → List (Option (List Cell)) → Prop} {a : List Arg} {Q : List (Bool × List Cell) → List (Option (List Cell)) → Prop} (h : ∃ b vals outs, a = b ∧ D P X (.call 64 b vals outs) ∧ Q vals outs) : CallS P X 64 a Q := ⟨h⟩

set_option maxHeartbeats 2000000 in
set_option maxRecDepth 100000 in
theorem tx80 {l : List Prt} {r : List Vl} (hl : l.length ≤ 2000000 := by first | assumption | omega | (simp; done) | (simp; omega)) (hr : r.length ≤ 2000000 := by first | assumption | omega | (simp; done) | (simp; omega)) : T 80 [aE l, aE r] [vE (pkR l r)] [none, none] := by
  refine w_call md [[3]] Tryz.func80 rfl ?_
  repeat' ((conv => whnf); (first | refine k0 ?_ | refine jA fun _ => ?_ | refine jB fun _ => ?_ | refine kC (fun _ => ?_) fun _ => ?_ | (apply cx48; refine kl tx48 ?_) | refine jst ?_ | exact ⟨rfl, rfl⟩ | exact jV | fail))
  conv => whnf
  refine loopk (ι := Nat) (fun i => i ≤ l.length) (fun i => l.length - i) (0) [1, 9, 10] (fun i => [(5, .v false [.ref 2 0 ((pkR l r).take i).length 3]), (11, .v false [i6 i])]) [none, none, some fun i => nE ((pkR l r).take i)] ?_
  refine ⟨by omega, ?_, fun a ha => ?_⟩
  · exact (w_virt 5 3 rfl rfl).trans (jw [])
  · have htl := tkl (l := pkR l r) (i := a) pkR_len ha
    repeat' ((conv => whnf); (first | refine k0 ?_ | (apply cx48; refine kl tx48 ?_) | refine jst ?_ | exact ⟨rfl, rfl⟩ | exact jV | fail))
    conv => whnf
    refine ⟨fun hlt => ?_, fun hge => ?_⟩
    · have ha2 : a < l.length := by omega
      by_cases hin : inB l[a].col 0 ((r.length : Int) - 1) = true
      · have hb := inB_iff.1 hin
        have h2 : l[a].col.toNat < r.length := by omega
        have hI : T 48 [aI l[a].col, aI 0, aI ((r.length : Int) - 1)] [vB true] [none, none, none] := by
          have h := tx48 (n := l[a].col) (l := 0) (h := (r.length : Int) - 1)
          rwa [hin] at h
        repeat' ((conv => whnf); (first | (apply cx48; refine kl (hI) ?_) | refine And.intro ⟨by omega, by omega⟩ (Exists.intro _ (And.intro (rdI (i := l[a].col.toNat) (by omega) (by omega)) ?_)) | refine jap (N := cs true ([r[l[a].col.toNat]] : List Vl)) (apE ?_) | refine k0 ?_ | refine jA fun _ => ?_ | refine jB fun _ => ?_ | refine kC (fun _ => ?_) fun _ => ?_ | (apply cx48; refine kl tx48 ?_) | refine jst ?_ | exact ⟨rfl, rfl⟩ | exact jV | fail))
        refine ⟨⟨a + 1, by omega⟩, by simp only; omega, ?_⟩
        exact w_autoX [] (by (conv => whnf); exact And.intro (by kernel_rfl) (And.intro (by kernel_rfl) (by repeat' (first | (with_reducible exact rfl) | ((conv => whnf); first | exact trivial | exact (by rw [pkR_take ha2 (pkV_y hin h2)]; exact ⟨rfl, cs_clo _, rfl⟩) | exact (by rw [pkR_take ha2 (pkV_y hin h2)]; rfl) | exact rfl | exact tvi (by first | omega | (dsimp only; omega) | (simp; done)) | exact tvr (by first | omega | (dsimp only; omega) | (simp; done) | (simp; omega)) | exact ⟨rfl, clo_i, by first | rfl | rw [List.take_length] | assumption⟩ | refine And.intro ?_ ?_)))))
      · have hI : T 48 [aI l[a].col, aI 0, aI ((r.length : Int) - 1)] [vB false] [none, none, none] := by
          have h := tx48 (n := l[a].col) (l := 0) (h := (r.length : Int) - 1)
          rwa [bNt hin] at h
        repeat' ((conv => whnf); (first | (apply cx48; refine kl (hI) ?_) | refine jap (N := cs true ([v0] : List Vl)) (apE ?_) | refine k0 ?_ | refine jA fun _ => ?_ | refine jB fun _ => ?_ | refine kC (fun _ => ?_) fun _ => ?_ | (apply cx48; refine kl tx48 ?_) | refine jst ?_ | exact ⟨rfl, rfl⟩ | exact jV | fail))
        refine ⟨⟨a + 1, by omega⟩, by simp only; omega, ?_⟩
        exact w_autoX [] (by (conv => whnf); exact And.intro (by kernel_rfl) (And.intro (by kernel_rfl) (by repeat' (first | (with_reducible exact rfl) | ((conv => whnf); first | exact trivial | exact (by rw [pkR_take ha2 (pkV_n (bNt hin))]; exact ⟨rfl, cs_clo _, rfl⟩) | exact (by rw [pkR_take ha2 (pkV_n (bNt hin))]; rfl) | exact rfl | exact tvi (by first | omega | (dsimp only; omega) | (simp; done)) | exact tvr (by first | omega | (dsimp only; omega) | (simp; done) | (simp; omega)) | exact ⟨rfl, clo_i, by first | rfl | rw [List.take_length] | assumption⟩ | refine And.intro ?_ ?_)))))
    · obtain rfl : a = l.length := by omega
      have e : (pkR l r).take l.length = pkR l r := by rw [← pkR_len (r := r)]; exact List.take_length
      repeat' ((conv => whnf); (first | refine k0 ?_ | refine jA fun _ => ?_ | refine jB fun _ => ?_ | refine kC (fun _ => ?_) fun _ => ?_ | (apply cx48; refine kl tx48 ?_) | refine jst ?_ | exact ⟨rfl, rfl⟩ | exact jV | fail))
      exact ⟨by rw [e]; rfl, rfl⟩

theorem cx80 {P : Program} {X : FuncId → List Arg → List (Bool × List Cell) → List (Option (List Cell)) → Prop} {a : List Arg} {Q : List (Bool × List Cell) → List (Option (List Cell)) → Prop} (h : ∃ b vals outs, a = b ∧ D P X (.call 80 b vals outs) ∧ Q vals outs) : CallS P X 80 a Q := ⟨h⟩

set_option maxHeartbeats 2000000 in
set_option maxRecDepth 100000 in
theorem tx116 {l : List Prt} {r : List Vl} (hl : l.length ≤ 2000000 := by first | assumption | omega | (simp; done) | (simp; omega)) (hr : r.length ≤ 2000000 := by first | assumption | omega | (simp; done) | (simp; omega)) : T 116 [aE l, aE r] [vE (pkR l r)] [none, none] := by
  refine w_call md [] Tryz.func116 rfl ?_
  repeat' ((conv => whnf); (first | refine k0 ?_ | refine jA fun _ => ?_ | refine jB fun _ => ?_ | refine kC (fun _ => ?_) fun _ => ?_ | (apply cx88; refine kl tx88 ?_) | refine jst ?_ | exact ⟨rfl, rfl⟩ | exact jV | fail))
  conv => whnf
  refine loopk (ι := Nat) (fun i => i ≤ l.length) (fun i => l.length - i) (0) [0, 1] (fun i => [(5, .v false [.ref 2 0 ((pkR l r).take i).length 3]), (6, .v false [i6 i])]) [none, none, some fun i => nE ((pkR l r).take i)] ?_
  refine ⟨by omega, ?_, fun a ha => ?_⟩
  · exact jw []
  · have htl := tkl (l := pkR l r) (i := a) pkR_len ha
    repeat' ((conv => whnf); (first | refine k0 ?_ | (apply cx88; refine kl tx88 ?_) | refine jst ?_ | exact ⟨rfl, rfl⟩ | exact jV | fail))
    conv => whnf
    refine ⟨fun hlt => ?_, fun hge => ?_⟩
    · have ha2 : a < l.length := by omega
      by_cases hin : inB l[a].col 0 ((r.length : Int) - 1) = true
      · have hb := inB_iff.1 hin
        have h2 : l[a].col.toNat < r.length := by omega
        have hI : T 88 [aI l[a].col, aI 0, aI ((r.length : Int) - 1)] [vB true] [none, none, none] := by
          have h := tx88 (n := l[a].col) (l := 0) (h := (r.length : Int) - 1)
          rwa [hin] at h
        repeat' ((conv => whnf); (first | (apply cx88; refine kl (hI) ?_) | refine And.intro ⟨by omega, by omega⟩ (Exists.intro _ (And.intro (rdI (i := l[a].col.toNat) (by omega) (by omega)) ?_)) | refine jap (N := cs true ([r[l[a].col.toNat]] : List Vl)) (apE ?_) | refine k0 ?_ | refine jA fun _ => ?_ | refine jB fun _ => ?_ | refine kC (fun _ => ?_) fun _ => ?_ | (apply cx88; refine kl tx88 ?_) | refine jst ?_ | exact ⟨rfl, rfl⟩ | exact jV | fail))
        refine ⟨⟨a + 1, by omega⟩, by simp only; omega, ?_⟩
        exact w_autoX [] (by (conv => whnf); exact And.intro (by kernel_rfl) (And.intro (by kernel_rfl) (by repeat' (first | (with_reducible exact rfl) | ((conv => whnf); first | exact trivial | exact (by rw [pkR_take ha2 (pkV_y hin h2)]; exact ⟨rfl, cs_clo _, rfl⟩) | exact (by rw [pkR_take ha2 (pkV_y hin h2)]; rfl) | exact rfl | exact tvi (by first | omega | (dsimp only; omega) | (simp; done)) | exact tvr (by first | omega | (dsimp only; omega) | (simp; done) | (simp; omega)) | exact ⟨rfl, clo_i, by first | rfl | rw [List.take_length] | assumption⟩ | refine And.intro ?_ ?_)))))
      · have hI : T 88 [aI l[a].col, aI 0, aI ((r.length : Int) - 1)] [vB false] [none, none, none] := by
          have h := tx88 (n := l[a].col) (l := 0) (h := (r.length : Int) - 1)
          rwa [bNt hin] at h
        repeat' ((conv => whnf); (first | (apply cx88; refine kl (hI) ?_) | refine jap (N := cs true ([v0] : List Vl)) (apE ?_) | refine k0 ?_ | refine jA fun _ => ?_ | refine jB fun _ => ?_ | refine kC (fun _ => ?_) fun _ => ?_ | (apply cx88; refine kl tx88 ?_) | refine jst ?_ | exact ⟨rfl, rfl⟩ | exact jV | fail))
        refine ⟨⟨a + 1, by omega⟩, by simp only; omega, ?_⟩
        exact w_autoX [] (by (conv => whnf); exact And.intro (by kernel_rfl) (And.intro (by kernel_rfl) (by repeat' (first | (with_reducible exact rfl) | ((conv => whnf); first | exact trivial | exact (by rw [pkR_take ha2 (pkV_n (bNt hin))]; exact ⟨rfl, cs_clo _, rfl⟩) | exact (by rw [pkR_take ha2 (pkV_n (bNt hin))]; rfl) | exact rfl | exact tvi (by first | omega | (dsimp only; omega) | (simp; done)) | exact tvr (by first | omega | (dsimp only; omega) | (simp; done) | (simp; omega)) | exact ⟨rfl, clo_i, by first | rfl | rw [List.take_length] | assumption⟩ | refine And.intro ?_ ?_)))))
    · obtain rfl : a = l.length := by omega
      have e : (pkR l r).take l.length = pkR l r := by rw [← pkR_len (r := r)]; exact List.take_length
      repeat' ((conv => whnf); (first | refine k0 ?_ | refine jA fun _ => ?_ | refine jB fun _ => ?_ | refine kC (fun _ => ?_) fun _ => ?_ | (apply cx88; refine kl tx88 ?_) | refine jst ?_ | exact ⟨rfl, rfl⟩ | exact jV | fail))
      exact ⟨by rw [e]; rfl, rfl⟩

theorem cx116 {P : Program} {X : FuncId → List Arg → List (Bool × List Cell) → List (Option (List Cell)) → Prop} {a : List Arg} {Q : List (Bool × List Cell) → List (Option (List Cell)) → Prop} (h : ∃ b vals outs, a = b ∧ D P X (.call 116 b vals outs) ∧ Q vals outs) : CallS P X 116 a Q := ⟨h⟩

set_option maxRecDepth 100000 in
theorem tx92 {r : List Vl} (hr : r.length ≤ 2000000 := by first | assumption | omega | (simp; done) | (simp; omega)) : T 92 [aE r] [vE r] [none] := by
  refine w_call md [[3]] Tryz.func92 rfl ?_
  repeat' ((conv => whnf); (first | refine Exists.intro _ (Exists.intro (cs true (_ : List Vl)) (And.intro rfl (And.intro ⟨bgb (by omega), bg1 (by omega)⟩ ?_))) | refine k0 ?_ | refine jA fun _ => ?_ | refine jB fun _ => ?_ | refine kC (fun _ => ?_) fun _ => ?_ | refine jst ?_ | exact ⟨rfl, rfl⟩ | exact jV | fail))

theorem cx92 {P : Program} {X : FuncId → List Arg → List (Bool × List Cell) → List (Option (List Cell)) → Prop} {a : List Arg} {Q : List (Bool × List Cell) → List (Option (List Cell)) → Prop} (h : ∃ b vals outs, a = b ∧ D P X (.call 92 b vals outs) ∧ Q vals outs) : CallS P X 92 a Q := ⟨h⟩

end Go.Proofs.YtopnaijeicknoaaGreatDoor
