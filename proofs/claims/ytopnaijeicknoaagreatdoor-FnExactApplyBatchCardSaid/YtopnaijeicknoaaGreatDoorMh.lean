/- Functions of the program, each with what it gives back. -/
import Derived.Test.YtopnaijeicknoaaGreatDoorKe
import Derived.Test.YtopnaijeicknoaaGreatDoorChecked
import Derived.IntWalk
import Derived.Test.YtopnaijeicknoaaGreatDoorMg
import Derived.Test.YtopnaijeicknoaaGreatDoorMa
namespace Go.Proofs.YtopnaijeicknoaaGreatDoor
open Go Go.RowKit Go.IntWalk
open Enc (sz cs)
attribute [local irreducible] IntKind.wrap

/-! ### Tables: what is right -/
attribute [local irreducible] frOk nmOk
abbrev frAll (l : List ByteArray) : Prop := ∀ s ∈ l, frOk s = true
structure NmsOk (d : Df) : Prop where
  cols : ∀ i (h : i < d.cols.length), frOk d.cols[i].name = true
  idx : ∀ i (h : i < d.idx.length), frOk d.idx[i].name = true
  name : frOk d.name = true
open Classical in
noncomputable def nmsOk (d : Df) : Bool := decide (NmsOk d)
theorem nmsOk_y {d : Df} (h : NmsOk d) : nmsOk d = true := by unfold nmsOk; simp [h]
theorem nmsOk_n {d : Df} (h : ¬ NmsOk d) : nmsOk d = false := by unfold nmsOk; simp [h]
theorem zDf_b {d : Df} (h : zDf d ≤ 2000000) : d.name.size ≤ 2000000 ∧ d.cols.length ≤ 2000000 ∧ d.prim.length ≤ 2000000 ∧ d.idx.length ≤ 2000000 ∧ (∀ i (h : i < d.cols.length), d.cols[i].name.size ≤ 2000000) ∧ ∀ i (h : i < d.idx.length), d.idx[i].name.size ≤ 2000000 ∧ d.idx[i].parts.length ≤ 2000000 := by
  unfold zDf at h
  refine ⟨by omega, by omega, by omega, by omega, fun i hi => ?_, fun i hi => ?_⟩
  · have := cnt_mem (c := zCl) (List.getElem_mem hi)
    simp only [zCl] at this; omega
  · have := cnt_mem (c := zIx) (List.getElem_mem hi)
    simp only [zIx] at this; omega
theorem vB1 {b : Bool} (h : b = true) : [(false, [Cell.prim (Value.bool true)])] = [vB b] := by rw [h]
theorem vB0 {b : Bool} (h : b = false) : [(false, [Cell.prim (Value.bool false)])] = [vB b] := by rw [h]
theorem bft {a : Bool} {P : Prop} (h : a = false) (e : a = true) : P := by rw [h] at e; cases e
open Classical in
noncomputable def bOf (p : Prop) : Bool := decide p
theorem bOf_y {p : Prop} (h : p) : bOf p = true := by unfold bOf; simp [h]
theorem bOf_n {p : Prop} (h : ¬ p) : bOf p = false := by unfold bOf; simp [h]
theorem nbO_1 {p : Prop} (h : ¬ p) : (!bOf p) = true := by rw [bOf_n h]; rfl
theorem nbO_0 {p : Prop} (h : p) : (!bOf p) = false := by rw [bOf_y h]; rfl
theorem bOf_t {p : Prop} (h : bOf p = true) : p := by unfold bOf at h; simpa using h
theorem bOf_f {p : Prop} (h : bOf p = false) : ¬ p := by unfold bOf at h; simpa using h
open Classical in
/-- The first number of which something holds; -1: there is none. -/
noncomputable def fstI (n : Nat) (p : Nat → Prop) : Int := if h : ∃ i, i < n ∧ p i ∧ ∀ j, j < i → ¬ p j then ((Classical.choose h : Nat) : Int) else -1
theorem fstI_at {n : Nat} {p : Nat → Prop} {i : Nat} (hi : i < n) (h : p i) (hn : ∀ j, j < i → ¬ p j) : fstI n p = i := by
  have he : ∃ i, i < n ∧ p i ∧ ∀ j, j < i → ¬ p j := ⟨i, hi, h, hn⟩
  unfold fstI
  rw [dif_pos he]
  have hs := Classical.choose_spec he
  generalize Classical.choose he = k at hs
  obtain ⟨h1, h2, h3⟩ := hs
  have e1 : ¬ k < i := fun q => hn k q h2
  have e2 : ¬ i < k := fun q => h3 i q h
  omega
theorem fstI_no {n : Nat} {p : Nat → Prop} (h : ∀ j, j < n → ¬ p j) : fstI n p = -1 := by
  unfold fstI
  rw [dif_neg]
  rintro ⟨i, h1, h2, _⟩
  exact h i h1 h2
theorem fstI_neg {n : Nat} {p : Nat → Prop} (h : fstI n p = -1) : ∀ j, j < n → ¬ p j := by
  intro j
  induction j using Nat.strongRecOn with
  | _ j ih =>
    intro hj q
    have := fstI_at hj q (fun k hk => ih k hk (by omega))
    rw [this] at h; omega
structure TypOk (d : Df) : Prop where
  len : inB d.cols.length 1 6 = true
  type : ∀ i (h : i < d.cols.length), inB d.cols[i].type 1 4 = true
noncomputable abbrev typOk (d : Df) : Bool := bOf (TypOk d)
structure OncOk (d : Df) : Prop where
  cols : ∀ i (h : i < d.cols.length) j (hj : j < i), d.cols[j].name ≠ d.cols[i].name
  idx : ∀ i (h : i < d.idx.length) j (hj : j < i), d.idx[j].name ≠ d.idx[i].name
noncomputable abbrev oncOk (d : Df) : Bool := bOf (OncOk d)
abbrev PrtI (n : Nat) (l : List By) (i : Nat) (h : i < l.length) : Prop := inB l[i].col 0 ((n : Int) - 1) = true ∧ ∀ j (hj : j < i), l[j].col ≠ l[i].col
structure PrtOk (n : Nat) (l : List By) : Prop where
  len : inB l.length 1 2 = true
  prt : ∀ i (h : i < l.length), PrtI n l i h
noncomputable abbrev prtOk (n : Nat) (l : List By) : Bool := bOf (PrtOk n l)
structure AllOk (d : Df) : Prop where
  idx : ∀ i (h : i < d.idx.length), prtOk d.cols.length d.idx[i].parts = true
  prim : prtOk d.cols.length d.prim = true
noncomputable abbrev allOk (d : Df) : Bool := bOf (AllOk d)
abbrev nulI (d : Df) (i : Nat) (h : i < d.prim.length) : Prop := ∃ h2 : d.prim[i].col.toNat < d.cols.length, d.cols[d.prim[i].col.toNat].null = true
abbrev NulP (d : Df) : Prop := ∃ i, ∃ h : i < d.prim.length, nulI d i h
/-- What is wrong with a table. -/
noncomputable def cdN (d : Df) : Int :=
  if nmsOk d = false then 1 else if typOk d = false then 2 else if oncOk d = false then 3 else if 2 < d.idx.length then 6 else
  if allOk d = false then 5 else if bOf (NulP d) = true then 4 else 0
section
variable {d : Df}
theorem cdN_1 (h : nmsOk d = false) : cdN d = 1 := if_pos h
theorem cdN_2 (h1 : nmsOk d = true) (h : typOk d = false) : cdN d = 2 := by unfold cdN; rw [h1, if_neg (by decide), if_pos h]
theorem cdN_3 (h1 : nmsOk d = true) (h2 : typOk d = true) (h : oncOk d = false) : cdN d = 3 := by unfold cdN; rw [h1, if_neg (by decide), h2, if_neg (by decide), if_pos h]
theorem cdN_6 (h1 : nmsOk d = true) (h2 : typOk d = true) (h3 : oncOk d = true) (h : 2 < d.idx.length) : cdN d = 6 := by unfold cdN; rw [h1, if_neg (by decide), h2, if_neg (by decide), h3, if_neg (by decide), if_pos h]
theorem cdN_5 (h1 : nmsOk d = true) (h2 : typOk d = true) (h3 : oncOk d = true) (h4 : ¬ 2 < d.idx.length) (h : allOk d = false) : cdN d = 5 := by unfold cdN; rw [h1, if_neg (by decide), h2, if_neg (by decide), h3, if_neg (by decide), if_neg h4, if_pos h]
theorem cdN_4 (h1 : nmsOk d = true) (h2 : typOk d = true) (h3 : oncOk d = true) (h4 : ¬ 2 < d.idx.length) (h5 : allOk d = true) (h : NulP d) : cdN d = 4 := by unfold cdN; rw [h1, if_neg (by decide), h2, if_neg (by decide), h3, if_neg (by decide), if_neg h4, h5, if_neg (by decide), if_pos (bOf_y h)]
theorem cdN_0 (h1 : nmsOk d = true) (h2 : typOk d = true) (h3 : oncOk d = true) (h4 : ¬ 2 < d.idx.length) (h5 : allOk d = true) (h : ¬ NulP d) : cdN d = 0 := by unfold cdN; rw [h1, if_neg (by decide), h2, if_neg (by decide), h3, if_neg (by decide), if_neg h4, h5, if_neg (by decide), bOf_n h, if_neg (by decide)]
end
/-- The first column of a name. -/
noncomputable def colI (l : List Cl) (s : ByteArray) : Int := fstI l.length fun i => ∃ h : i < l.length, l[i].name = s
abbrev badP (s : List Df) (i : Nat) : Prop := 3 ≤ i ∨ ∃ h : i < s.length, cdN s[i] ≠ 0 ∨ ∃ j, ∃ hj : j < i, s[j].name = s[i].name
/-- The first table that is wrong. -/
noncomputable def fbN (s : List Df) : Int := fstI s.length (badP s)

set_option maxRecDepth 100000 in
theorem tx121 {d : Df} (hd : zDf d ≤ 2000000 := by first | assumption | omega | (simp; done) | (simp; omega)) : T 121 [.val true (dfC false d)] [vB (nmsOk d)] [none] := by
  refine w_call md [] Tryz.func121 rfl ?_
  obtain ⟨q1, q2, q3, q4, q5, q6⟩ := zDf_b hd
  repeat' ((conv => whnf); (first | refine k0 ?_ | refine jA fun _ => ?_ | refine jB fun _ => ?_ | refine kC (fun _ => ?_) fun _ => ?_ | (apply cx151; refine kl tx151 ?_) | refine jst ?_ | exact ⟨rfl, rfl⟩ | exact jV | fail))
  conv => whnf
  refine loopk (ι := Nat) (fun i => i ≤ d.cols.length ∧ ∀ j (h : j < d.cols.length), j < i → frOk d.cols[j].name = true) (fun i => d.cols.length - i) (0) [1, 8, 9] (fun i => [(10, .v false [i6 i])]) [none, none] ?_
  refine ⟨⟨by omega, by intros; omega⟩, ?_, fun i hi => ?_⟩
  · exact jw []
  · repeat' ((conv => whnf); (first | refine k0 ?_ | (apply cx151; refine kl tx151 ?_) | refine jst ?_ | exact ⟨rfl, rfl⟩ | exact jV | fail))
    conv => whnf
    refine ⟨fun hlt => ?_, fun hge => ?_⟩
    · have hi2 : i < d.cols.length := by omega
      have hb := q5 i hi2
      repeat' ((conv => whnf); (first | (apply cx151; refine kl (tx151 (s := d.cols[i].name)) ?_) | refine k0 ?_ | refine jA fun _ => ?_ | refine jB fun _ => ?_ | refine kC (fun _ => ?_) fun _ => ?_ | (apply cx151; refine kl tx151 ?_) | refine jst ?_ | exact ⟨rfl, rfl⟩ | exact jV | fail))
      · refine ⟨⟨i + 1, by omega, all_suc hi.2 hi2 ‹_ = true›⟩, by simp only; omega, ?_⟩
        exact jw []
      · exact ⟨by rw [nmsOk_n fun q => bft ‹_ = false› (q.cols i hi2)], rfl⟩
    · obtain rfl : i = d.cols.length := by omega
      have hc : ∀ j (h : j < d.cols.length), frOk d.cols[j].name = true := fun j h => hi.2 j h h
      repeat' ((conv => whnf); (first | refine k0 ?_ | refine jA fun _ => ?_ | refine jB fun _ => ?_ | refine kC (fun _ => ?_) fun _ => ?_ | (apply cx151; refine kl tx151 ?_) | refine jst ?_ | exact ⟨rfl, rfl⟩ | exact jV | fail))
      conv => whnf
      refine loopk (ι := Nat) (fun i => i ≤ d.idx.length ∧ ∀ j (h : j < d.idx.length), j < i → frOk d.idx[j].name = true) (fun i => d.idx.length - i) (0) [1, 20, 21] (fun i => [(22, .v false [i6 i])]) [none, none] ?_
      refine ⟨⟨by omega, by intros; omega⟩, ?_, fun i hi => ?_⟩
      · exact jw []
      · repeat' ((conv => whnf); (first | refine k0 ?_ | (apply cx151; refine kl tx151 ?_) | refine jst ?_ | exact ⟨rfl, rfl⟩ | exact jV | fail))
        conv => whnf
        refine ⟨fun hlt => ?_, fun hge => ?_⟩
        · have hi2 : i < d.idx.length := by omega
          have hb := (q6 i hi2).1
          repeat' ((conv => whnf); (first | (apply cx151; refine kl (tx151 (s := d.idx[i].name)) ?_) | refine k0 ?_ | refine jA fun _ => ?_ | refine jB fun _ => ?_ | refine kC (fun _ => ?_) fun _ => ?_ | (apply cx151; refine kl tx151 ?_) | refine jst ?_ | exact ⟨rfl, rfl⟩ | exact jV | fail))
          · refine ⟨⟨i + 1, by omega, all_suc hi.2 hi2 ‹_ = true›⟩, by simp only; omega, ?_⟩
            exact jw []
          · exact ⟨by rw [nmsOk_n fun q => bft ‹_ = false› (q.idx i hi2)], rfl⟩
        · obtain rfl : i = d.idx.length := by omega
          repeat' ((conv => whnf); (first | (apply cx151; refine kl (tx151 (s := d.name)) ?_) | refine k0 ?_ | refine jA fun _ => ?_ | refine jB fun _ => ?_ | refine kC (fun _ => ?_) fun _ => ?_ | (apply cx151; refine kl tx151 ?_) | refine jst ?_ | exact ⟨rfl, rfl⟩ | exact jV | fail))
          · exact ⟨by rw [nmsOk_y ⟨hc, fun j h => hi.2 j h h, ‹_ = true›⟩], rfl⟩
          · exact ⟨by rw [nmsOk_n fun q => bft ‹_ = false› q.name], rfl⟩

theorem cx121 {P : Program} {X : FuncId → List Arg → List (Bool × List Cell) → List (Option (List Cell)) → Prop} {a : List Arg} {Q : List (Bool × List Cell) → List (Option (List Cell)) → Prop} (h : ∃ b vals outs, a = b ∧ D P X (.call 121 b vals outs) ∧ Q vals outs) : CallS P X 121 a Q := ⟨h⟩

set_option maxRecDepth 100000 in
theorem tx103 {d : Df} (hd : zDf d ≤ 2000000 := by first | assumption | omega | (simp; done) | (simp; omega)) : T 103 [.val true (dfC false d)] [vB (nmsOk d)] [none] := by
  refine w_call md [] Tryz.func103 rfl ?_
  obtain ⟨q1, q2, q3, q4, q5, q6⟩ := zDf_b hd
  repeat' ((conv => whnf); (first | refine k0 ?_ | refine jA fun _ => ?_ | refine jB fun _ => ?_ | refine kC (fun _ => ?_) fun _ => ?_ | (apply cx138; refine kl tx138 ?_) | refine jst ?_ | exact ⟨rfl, rfl⟩ | exact jV | fail))
  conv => whnf
  refine loopk (ι := Nat) (fun i => i ≤ d.cols.length ∧ ∀ j (h : j < d.cols.length), j < i → frOk d.cols[j].name = true) (fun i => d.cols.length - i) (0) [1] (fun i => [(3, .v false [i6 i])]) [none, none] ?_
  refine ⟨⟨by omega, by intros; omega⟩, ?_, fun i hi => ?_⟩
  · exact jw []
  · repeat' ((conv => whnf); (first | refine k0 ?_ | (apply cx138; refine kl tx138 ?_) | refine jst ?_ | exact ⟨rfl, rfl⟩ | exact jV | fail))
    conv => whnf
    refine ⟨fun hlt => ?_, fun hge => ?_⟩
    · have hi2 : i < d.cols.length := by omega
      have hb := q5 i hi2
      repeat' ((conv => whnf); (first | (apply cx138; refine kl (tx138 (s := d.cols[i].name)) ?_) | refine k0 ?_ | refine jA fun _ => ?_ | refine jB fun _ => ?_ | refine kC (fun _ => ?_) fun _ => ?_ | (apply cx138; refine kl tx138 ?_) | refine jst ?_ | exact ⟨rfl, rfl⟩ | exact jV | fail))
      · refine ⟨⟨i + 1, by omega, all_suc hi.2 hi2 ‹_ = true›⟩, by simp only; omega, ?_⟩
        exact jw []
      · exact ⟨by rw [nmsOk_n fun q => bft ‹_ = false› (q.cols i hi2)], rfl⟩
    · obtain rfl : i = d.cols.length := by omega
      have hc : ∀ j (h : j < d.cols.length), frOk d.cols[j].name = true := fun j h => hi.2 j h h
      repeat' ((conv => whnf); (first | refine k0 ?_ | refine jA fun _ => ?_ | refine jB fun _ => ?_ | refine kC (fun _ => ?_) fun _ => ?_ | (apply cx138; refine kl tx138 ?_) | refine jst ?_ | exact ⟨rfl, rfl⟩ | exact jV | fail))
      conv => whnf
      refine loopk (ι := Nat) (fun i => i ≤ d.idx.length ∧ ∀ j (h : j < d.idx.length), j < i → frOk d.idx[j].name = true) (fun i => d.idx.length - i) (0) [1] (fun i => [(4, .v false [i6 i])]) [none, none] ?_
      refine ⟨⟨by omega, by intros; omega⟩, ?_, fun i hi => ?_⟩
      · exact jw []
      · repeat' ((conv => whnf); (first | refine k0 ?_ | (apply cx138; refine kl tx138 ?_) | refine jst ?_ | exact ⟨rfl, rfl⟩ | exact jV | fail))
        conv => whnf
        refine ⟨fun hlt => ?_, fun hge => ?_⟩
        · have hi2 : i < d.idx.length := by omega
          have hb := (q6 i hi2).1
          repeat' ((conv => whnf); (first | (apply cx138; refine kl (tx138 (s := d.idx[i].name)) ?_) | refine k0 ?_ | refine jA fun _ => ?_ | refine jB fun _ => ?_ | refine kC (fun _ => ?_) fun _ => ?_ | (apply cx138; refine kl tx138 ?_) | refine jst ?_ | exact ⟨rfl, rfl⟩ | exact jV | fail))
          · refine ⟨⟨i + 1, by omega, all_suc hi.2 hi2 ‹_ = true›⟩, by simp only; omega, ?_⟩
            exact jw []
          · exact ⟨by rw [nmsOk_n fun q => bft ‹_ = false› (q.idx i hi2)], rfl⟩
        · obtain rfl : i = d.idx.length := by omega
          repeat' ((conv => whnf); (first | (apply cx138; refine kl (tx138 (s := d.name)) ?_) | refine k0 ?_ | refine jA fun _ => ?_ | refine jB fun _ => ?_ | refine kC (fun _ => ?_) fun _ => ?_ | (apply cx138; refine kl tx138 ?_) | refine jst ?_ | exact ⟨rfl, rfl⟩ | exact jV | fail))
          · exact ⟨by rw [nmsOk_y ⟨hc, fun j h => hi.2 j h h, ‹_ = true›⟩], rfl⟩
          · exact ⟨by rw [nmsOk_n fun q => bft ‹_ = false› q.name], rfl⟩

theorem cx103 {P : Program} {X : FuncId → List Arg → List (Bool × List Cell) → List (Option (List Cell)) → Prop} {a : List Arg} {Q : List (Bool × List Cell) → List (Option (List Cell)) → Prop} (h : ∃ b vals outs, a = b ∧ D P X (.call 103 b vals outs) ∧ Q vals outs) : CallS P X 103 a Q := ⟨h⟩

set_option maxRecDepth 100000 in
theorem tx104 {d : Df} (hd : zDf d ≤ 2000000 := by first | assumption | omega | (simp; done) | (simp; omega)) : T 104 [.val true (dfC false d)] [vB (typOk d)] [none] := by
  refine w_call md [] Tryz.func104 rfl ?_
  obtain ⟨q1, q2, q3, q4, q5, q6⟩ := zDf_b hd
  repeat' ((conv => whnf); (first | refine k0 ?_ | refine jA fun _ => ?_ | refine jB fun _ => ?_ | refine kC (fun _ => ?_) fun _ => ?_ | (apply cx88; refine kl tx88 ?_) | refine jst ?_ | exact ⟨rfl, rfl⟩ | exact jV | fail))
  conv => whnf
  refine loopk (ι := Nat) (fun i => i ≤ d.cols.length ∧ ∀ j (h : j < d.cols.length), j < i → inB d.cols[j].type 1 4 = true) (fun i => d.cols.length - i) (0) [1] (fun i => [(3, .v false [i6 i])]) [none, none] ?_
  refine ⟨⟨by omega, by intros; omega⟩, ?_, fun i hi => ?_⟩
  · exact jw []
  · repeat' ((conv => whnf); (first | refine k0 ?_ | (apply cx88; refine kl tx88 ?_) | refine jst ?_ | exact ⟨rfl, rfl⟩ | exact jV | fail))
    conv => whnf
    refine ⟨fun hlt => ?_, fun hge => ?_⟩
    · have hi2 : i < d.cols.length := by omega
      repeat' ((conv => whnf); (first | refine k0 ?_ | refine jA fun _ => ?_ | refine jB fun _ => ?_ | refine kC (fun _ => ?_) fun _ => ?_ | (apply cx88; refine kl tx88 ?_) | refine jst ?_ | exact ⟨rfl, rfl⟩ | exact jV | fail))
      · refine ⟨⟨i + 1, by omega, all_suc hi.2 hi2 ‹_ = true›⟩, by simp only; omega, ?_⟩
        exact jw []
      · exact ⟨vB0 (bOf_n fun q => bft ‹_ = false› (q.type i hi2)), rfl⟩
    · obtain rfl : i = d.cols.length := by omega
      repeat' ((conv => whnf); (first | refine k0 ?_ | refine jA fun _ => ?_ | refine jB fun _ => ?_ | refine kC (fun _ => ?_) fun _ => ?_ | (apply cx88; refine kl tx88 ?_) | refine jst ?_ | exact ⟨rfl, rfl⟩ | exact jV | fail))
      · exact ⟨vB1 (bOf_y ⟨‹_ = true›, fun j h => hi.2 j h h⟩), rfl⟩
      · exact ⟨vB0 (bOf_n fun q => bft ‹_ = false› q.len), rfl⟩

theorem cx104 {P : Program} {X : FuncId → List Arg → List (Bool × List Cell) → List (Option (List Cell)) → Prop} {a : List Arg} {Q : List (Bool × List Cell) → List (Option (List Cell)) → Prop} (h : ∃ b vals outs, a = b ∧ D P X (.call 104 b vals outs) ∧ Q vals outs) : CallS P X 104 a Q := ⟨h⟩

set_option maxRecDepth 100000 in
theorem tx139 {d : Df} {s : ByteArray} (hd : zDf d ≤ 2000000 := by first | assumption | omega | (simp; done) | (simp; omega)) : T 139 [.val true (dfC false d), aS s] [vI (colI d.cols s)] [none, none] := by
  refine w_call md [] Tryz.func139 rfl ?_
  obtain ⟨q1, q2, q3, q4, q5, q6⟩ := zDf_b hd
  repeat' ((conv => whnf); (first | refine k0 ?_ | refine jA fun _ => ?_ | refine jB fun _ => ?_ | refine kC (fun _ => ?_) fun _ => ?_ | refine jst ?_ | exact ⟨rfl, rfl⟩ | exact jV | fail))
  conv => whnf
  refine loopk (ι := Nat) (fun i => i ≤ d.cols.length ∧ ∀ j (h : j < d.cols.length), j < i → d.cols[j].name ≠ s) (fun i => d.cols.length - i) (0) [1, 2] (fun i => [(5, .v false [i6 i])]) [none, none, none] ?_
  refine ⟨⟨by omega, by intros; omega⟩, ?_, fun i hi => ?_⟩
  · exact jw []
  · repeat' ((conv => whnf); (first | refine k0 ?_ | refine jst ?_ | exact ⟨rfl, rfl⟩ | exact jV | fail))
    conv => whnf
    refine ⟨fun hlt => ?_, fun hge => ?_⟩
    · have hi2 : i < d.cols.length := by omega
      repeat' ((conv => whnf); (first | refine k0 ?_ | refine jA fun _ => ?_ | refine jB fun _ => ?_ | refine kC (fun _ => ?_) fun _ => ?_ | refine jst ?_ | exact ⟨rfl, rfl⟩ | exact jV | fail))
      · have e : colI d.cols s = i := fstI_at hi2 ⟨hi2, ba_eq ‹_›⟩ (fun j hj q => by
          obtain ⟨hq, q⟩ := q
          exact hi.2 j hq hj q)
        exact ⟨by rw [e], rfl⟩
      · refine ⟨⟨i + 1, by omega, all_suc hi.2 hi2 (fun e => absurd (congrArg ByteArray.toList e) ‹_›)⟩, by simp only; omega, ?_⟩
        exact jw []
    · obtain rfl : i = d.cols.length := by omega
      have e : colI d.cols s = -1 := fstI_no (fun j hj q => by
        obtain ⟨hq, q⟩ := q
        exact hi.2 j hq hj q)
      repeat' ((conv => whnf); (first | refine k0 ?_ | refine jA fun _ => ?_ | refine jB fun _ => ?_ | refine kC (fun _ => ?_) fun _ => ?_ | refine jst ?_ | exact ⟨rfl, rfl⟩ | exact jV | fail))

theorem cx139 {P : Program} {X : FuncId → List Arg → List (Bool × List Cell) → List (Option (List Cell)) → Prop} {a : List Arg} {Q : List (Bool × List Cell) → List (Option (List Cell)) → Prop} (h : ∃ b vals outs, a = b ∧ D P X (.call 139 b vals outs) ∧ Q vals outs) : CallS P X 139 a Q := ⟨h⟩

set_option maxRecDepth 100000 in
theorem tx122 {d : Df} (hd : zDf d ≤ 2000000 := by first | assumption | omega | (simp; done) | (simp; omega)) : T 122 [.val true (dfC false d)] [vB (!oncOk d)] [none] := by
  refine w_call md [] Tryz.func122 rfl ?_
  obtain ⟨q1, q2, q3, q4, q5, q6⟩ := zDf_b hd
  repeat' ((conv => whnf); (first | refine k0 ?_ | refine jA fun _ => ?_ | refine jB fun _ => ?_ | refine kC (fun _ => ?_) fun _ => ?_ | refine jst ?_ | exact ⟨rfl, rfl⟩ | exact jV | fail))
  conv => whnf
  refine loopk (ι := Nat) (fun i => i ≤ d.cols.length ∧ ∀ j (h : j < d.cols.length), j < i → ∀ k (hk : k < j), d.cols[k].name ≠ d.cols[j].name) (fun i => d.cols.length - i) (0) [1, 12, 13] (fun i => [(14, .v false [i6 i])]) [none, none] ?_
  refine ⟨⟨by omega, by intros; omega⟩, ?_, fun a ha => ?_⟩
  · exact jw []
  · repeat' ((conv => whnf); (first | refine k0 ?_ | refine jst ?_ | exact ⟨rfl, rfl⟩ | exact jV | fail))
    conv => whnf
    refine ⟨fun hlt => ?_, fun hge => ?_⟩
    · have ha2 : a < d.cols.length := by omega
      have htk : (d.cols.take a).length = a := by rw [List.length_take]; omega
      repeat' ((conv => whnf); (first | refine Exists.intro _ (Exists.intro _ (Exists.intro _ (And.intro rfl (And.intro bndN (And.intro (sl_to (by omega)) ?_))))) | refine k0 ?_ | refine jA fun _ => ?_ | refine jB fun _ => ?_ | refine kC (fun _ => ?_) fun _ => ?_ | refine jst ?_ | exact ⟨rfl, rfl⟩ | exact jV | fail))
      conv => whnf
      refine loopk (ι := Nat) (fun i => i ≤ a ∧ ∀ k (hk : k < a), k < i → d.cols[k].name ≠ d.cols[a].name) (fun i => a - i) (0) [1, 4, 12, 13, 14, 22, 23] (fun i => [(24, .v false [i6 i])]) [none, none, none] ?_
      refine ⟨⟨by omega, by intros; omega⟩, ?_, fun b hb => ?_⟩
      · exact jw []
      · repeat' ((conv => whnf); (first | refine k0 ?_ | refine jst ?_ | exact ⟨rfl, rfl⟩ | exact jV | fail))
        conv => whnf
        refine ⟨fun hlt => ?_, fun hge => ?_⟩
        · have hb2 : b < (d.cols.take a).length := by omega
          have hb3 : b < a := by omega
          have eg : (d.cols.take a)[b] = d.cols[b] := List.getElem_take
          repeat' ((conv => whnf); (first | refine k0 ?_ | refine jA fun _ => ?_ | refine jB fun _ => ?_ | refine kC (fun _ => ?_) fun _ => ?_ | refine jst ?_ | exact ⟨rfl, rfl⟩ | exact jV | fail))
          · have e : d.cols[b].name = d.cols[a].name := by rw [← eg]; exact ba_eq ‹_›
            exact ⟨vB1 (nbO_1 fun q => q.cols a ha2 b hb3 e), rfl⟩
          · have e : d.cols[b].name ≠ d.cols[a].name := fun e => absurd (congrArg ByteArray.toList e) (by rw [← eg]; assumption)
            refine ⟨⟨b + 1, by omega, all_suc hb.2 hb3 e⟩, by simp only; omega, ?_⟩
            exact jw []
        · obtain rfl : b = a := by omega
          repeat' ((conv => whnf); (first | refine k0 ?_ | refine jA fun _ => ?_ | refine jB fun _ => ?_ | refine kC (fun _ => ?_) fun _ => ?_ | refine jst ?_ | exact ⟨rfl, rfl⟩ | exact jV | fail))
          refine ⟨⟨b + 1, by omega, all_suc ha.2 ha2 (fun k hk => hb.2 k hk hk)⟩, by simp only; omega, ?_⟩
          exact jw []
    · obtain rfl : a = d.cols.length := by omega
      have hcc : ∀ i (h : i < d.cols.length) j (hj : j < i), d.cols[j].name ≠ d.cols[i].name := fun i h j hj => ha.2 i h h j hj
      repeat' ((conv => whnf); (first | refine k0 ?_ | refine jA fun _ => ?_ | refine jB fun _ => ?_ | refine kC (fun _ => ?_) fun _ => ?_ | refine jst ?_ | exact ⟨rfl, rfl⟩ | exact jV | fail))
      conv => whnf
      refine loopk (ι := Nat) (fun i => i ≤ d.idx.length ∧ ∀ j (h : j < d.idx.length), j < i → ∀ k (hk : k < j), d.idx[k].name ≠ d.idx[j].name) (fun i => d.idx.length - i) (0) [1, 36, 37] (fun i => [(38, .v false [i6 i])]) [none, none] ?_
      refine ⟨⟨by omega, by intros; omega⟩, ?_, fun a ha => ?_⟩
      · exact jw []
      · repeat' ((conv => whnf); (first | refine k0 ?_ | refine jst ?_ | exact ⟨rfl, rfl⟩ | exact jV | fail))
        conv => whnf
        refine ⟨fun hlt => ?_, fun hge => ?_⟩
        · have ha2 : a < d.idx.length := by omega
          have htk : (d.idx.take a).length = a := by rw [List.length_take]; omega
          repeat' ((conv => whnf); (first | refine Exists.intro _ (Exists.intro _ (Exists.intro _ (And.intro rfl (And.intro bndN (And.intro (sl_to (by omega)) ?_))))) | refine k0 ?_ | refine jA fun _ => ?_ | refine jB fun _ => ?_ | refine kC (fun _ => ?_) fun _ => ?_ | refine jst ?_ | exact ⟨rfl, rfl⟩ | exact jV | fail))
          conv => whnf
          refine loopk (ι := Nat) (fun i => i ≤ a ∧ ∀ k (hk : k < a), k < i → d.idx[k].name ≠ d.idx[a].name) (fun i => a - i) (0) [1, 8, 36, 37, 38, 46, 47] (fun i => [(48, .v false [i6 i])]) [none, none, none] ?_
          refine ⟨⟨by omega, by intros; omega⟩, ?_, fun b hb => ?_⟩
          · exact jw []
          · repeat' ((conv => whnf); (first | refine k0 ?_ | refine jst ?_ | exact ⟨rfl, rfl⟩ | exact jV | fail))
            conv => whnf
            refine ⟨fun hlt => ?_, fun hge => ?_⟩
            · have hb2 : b < (d.idx.take a).length := by omega
              have hb3 : b < a := by omega
              have eg : (d.idx.take a)[b] = d.idx[b] := List.getElem_take
              repeat' ((conv => whnf); (first | refine k0 ?_ | refine jA fun _ => ?_ | refine jB fun _ => ?_ | refine kC (fun _ => ?_) fun _ => ?_ | refine jst ?_ | exact ⟨rfl, rfl⟩ | exact jV | fail))
              · have e : d.idx[b].name = d.idx[a].name := by rw [← eg]; exact ba_eq ‹_›
                exact ⟨vB1 (nbO_1 fun q => q.idx a ha2 b hb3 e), rfl⟩
              · have e : d.idx[b].name ≠ d.idx[a].name := fun e => absurd (congrArg ByteArray.toList e) (by rw [← eg]; assumption)
                refine ⟨⟨b + 1, by omega, all_suc hb.2 hb3 e⟩, by simp only; omega, ?_⟩
                exact jw []
            · obtain rfl : b = a := by omega
              repeat' ((conv => whnf); (first | refine k0 ?_ | refine jA fun _ => ?_ | refine jB fun _ => ?_ | refine kC (fun _ => ?_) fun _ => ?_ | refine jst ?_ | exact ⟨rfl, rfl⟩ | exact jV | fail))
              refine ⟨⟨b + 1, by omega, all_suc ha.2 ha2 (fun k hk => hb.2 k hk hk)⟩, by simp only; omega, ?_⟩
              exact jw []
        · obtain rfl : a = d.idx.length := by omega
          repeat' ((conv => whnf); (first | refine k0 ?_ | refine jA fun _ => ?_ | refine jB fun _ => ?_ | refine kC (fun _ => ?_) fun _ => ?_ | refine jst ?_ | exact ⟨rfl, rfl⟩ | exact jV | fail))
          exact ⟨vB0 (nbO_0 ⟨hcc, fun i h j hj => ha.2 i h h j hj⟩), rfl⟩

theorem cx122 {P : Program} {X : FuncId → List Arg → List (Bool × List Cell) → List (Option (List Cell)) → Prop} {a : List Arg} {Q : List (Bool × List Cell) → List (Option (List Cell)) → Prop} (h : ∃ b vals outs, a = b ∧ D P X (.call 122 b vals outs) ∧ Q vals outs) : CallS P X 122 a Q := ⟨h⟩

set_option maxRecDepth 100000 in
theorem tx105 {d : Df} (hd : zDf d ≤ 2000000 := by first | assumption | omega | (simp; done) | (simp; omega)) : T 105 [.val true (dfC false d)] [vB (oncOk d)] [none] := by
  refine w_call md [] Tryz.func105 rfl ?_
  obtain ⟨q1, q2, q3, q4, q5, q6⟩ := zDf_b hd
  repeat' ((conv => whnf); (first | refine k0 ?_ | refine jA fun _ => ?_ | refine jB fun _ => ?_ | refine kC (fun _ => ?_) fun _ => ?_ | (apply cx139; refine kl tx139 ?_) | refine jst ?_ | exact ⟨rfl, rfl⟩ | exact jV | fail))
  conv => whnf
  refine loopk (ι := Nat) (fun i => i ≤ d.cols.length ∧ ∀ j (h : j < d.cols.length), j < i → ∀ k (hk : k < j), d.cols[k].name ≠ d.cols[j].name) (fun i => d.cols.length - i) (0) [1] (fun i => [(3, .v false [i6 i])]) [none, none] ?_
  refine ⟨⟨by omega, by intros; omega⟩, ?_, fun a ha => ?_⟩
  · exact jw []
  · repeat' ((conv => whnf); (first | refine k0 ?_ | (apply cx139; refine kl tx139 ?_) | refine jst ?_ | exact ⟨rfl, rfl⟩ | exact jV | fail))
    conv => whnf
    refine ⟨fun hlt => ?_, fun hge => ?_⟩
    · have ha2 : a < d.cols.length := by omega
      by_cases hf : ∀ k (hk : k < a), d.cols[k].name ≠ d.cols[a].name
      · have hC : T 139 [.val true (dfC false d), aS d.cols[a].name] [vI (a : Int)] [none, none] := by
          have h := tx139 (d := d) (s := d.cols[a].name)
          rwa [show colI d.cols d.cols[a].name = (a : Int) from fstI_at ha2 ⟨ha2, rfl⟩ (fun j hj q => by
            obtain ⟨_, q⟩ := q
            exact hf j hj q)] at h
        repeat' ((conv => whnf); (first | (apply cx139; refine kl (hC) ?_) | refine k0 ?_ | refine jA fun _ => ?_ | refine jB fun _ => ?_ | refine kC (fun _ => ?_) fun _ => ?_ | (apply cx139; refine kl tx139 ?_) | refine jst ?_ | exact ⟨rfl, rfl⟩ | exact jV | fail))
        refine ⟨⟨a + 1, by omega, all_suc ha.2 ha2 hf⟩, by simp only; omega, ?_⟩
        exact jw []
      · have hne : colI d.cols d.cols[a].name ≠ (a : Int) := fun q => by
          refine hf fun k hk e => ?_
          have hex : ∃ i, i < d.cols.length ∧ (∃ h : i < d.cols.length, d.cols[i].name = d.cols[a].name) ∧ ∀ j, j < i → ¬ ∃ h : j < d.cols.length, d.cols[j].name = d.cols[a].name := by
            have : ∀ n, ∀ k, k ≤ n → (∃ h : k < d.cols.length, d.cols[k].name = d.cols[a].name) → ∃ i, i ≤ k ∧ (∃ h : i < d.cols.length, d.cols[i].name = d.cols[a].name) ∧ ∀ j, j < i → ¬ ∃ h : j < d.cols.length, d.cols[j].name = d.cols[a].name := by
              intro n
              induction n with
              | zero => intro k hk q; exact ⟨k, Nat.le_refl _, q, fun j hj => by omega⟩
              | succ n ih =>
                intro k hk q
                by_cases hx : ∃ j, j < k ∧ ∃ h : j < d.cols.length, d.cols[j].name = d.cols[a].name
                · obtain ⟨j, hj, q2⟩ := hx
                  obtain ⟨i, h1, h2⟩ := ih j (by omega) q2
                  exact ⟨i, by omega, h2⟩
                · exact ⟨k, Nat.le_refl _, q, fun j hj q2 => hx ⟨j, hj, q2⟩⟩
            obtain ⟨i, h1, ⟨h2, h3⟩, h4⟩ := this k k (Nat.le_refl _) ⟨by omega, e⟩
            exact ⟨i, h2, ⟨h2, h3⟩, h4⟩
          obtain ⟨i, h1, h2, h3⟩ := hex
          have e2 : colI d.cols d.cols[a].name = (i : Int) := fstI_at h1 h2 h3
          have e3 : i = a := by rw [e2] at q; omega
          subst e3
          exact h3 k hk ⟨by omega, e⟩
        repeat' ((conv => whnf); (first | (apply cx139; refine kl (tx139 (d := d) (s := d.cols[a].name)) ?_) | refine k0 ?_ | refine jA fun _ => ?_ | refine jB fun _ => ?_ | refine kC (fun _ => ?_) fun _ => ?_ | (apply cx139; refine kl tx139 ?_) | refine jst ?_ | exact ⟨rfl, rfl⟩ | exact jV | fail))
        exact ⟨vB0 (bOf_n fun q => hf fun k hk => q.cols a ha2 k hk), rfl⟩
    · obtain rfl : a = d.cols.length := by omega
      have hcc : ∀ i (h : i < d.cols.length) j (hj : j < i), d.cols[j].name ≠ d.cols[i].name := fun i h j hj => ha.2 i h h j hj
      repeat' ((conv => whnf); (first | refine k0 ?_ | refine jA fun _ => ?_ | refine jB fun _ => ?_ | refine kC (fun _ => ?_) fun _ => ?_ | (apply cx139; refine kl tx139 ?_) | refine jst ?_ | exact ⟨rfl, rfl⟩ | exact jV | fail))
      conv => whnf
      refine loopk (ι := Nat) (fun i => i ≤ d.idx.length ∧ ∀ j (h : j < d.idx.length), j < i → ∀ k (hk : k < j), d.idx[k].name ≠ d.idx[j].name) (fun i => d.idx.length - i) (0) [1] (fun i => [(4, .v false [i6 i])]) [none, none] ?_
      refine ⟨⟨by omega, by intros; omega⟩, ?_, fun a ha => ?_⟩
      · exact jw []
      · repeat' ((conv => whnf); (first | refine k0 ?_ | (apply cx139; refine kl tx139 ?_) | refine jst ?_ | exact ⟨rfl, rfl⟩ | exact jV | fail))
        conv => whnf
        refine ⟨fun hlt => ?_, fun hge => ?_⟩
        · have ha2 : a < d.idx.length := by omega
          repeat' ((conv => whnf); (first | refine k0 ?_ | refine jA fun _ => ?_ | refine jB fun _ => ?_ | refine kC (fun _ => ?_) fun _ => ?_ | (apply cx139; refine kl tx139 ?_) | refine jst ?_ | exact ⟨rfl, rfl⟩ | exact jV | fail))
          conv => whnf
          refine loopk (ι := Nat) (fun i => i ≤ a ∧ ∀ k (hk : k < a), k < i → d.idx[k].name ≠ d.idx[a].name) (fun i => a - i) (0) [1, 4] (fun i => [(5, .v false [i6 i])]) [none, none] ?_
          refine ⟨⟨by omega, by intros; omega⟩, ?_, fun b hb => ?_⟩
          · exact jw []
          · repeat' ((conv => whnf); (first | refine k0 ?_ | (apply cx139; refine kl tx139 ?_) | refine jst ?_ | exact ⟨rfl, rfl⟩ | exact jV | fail))
            conv => whnf
            refine ⟨fun hlt => ?_, fun hge => ?_⟩
            · have hb2 : b < d.idx.length := by omega
              have hb3 : b < a := by omega
              repeat' ((conv => whnf); (first | refine k0 ?_ | refine jA fun _ => ?_ | refine jB fun _ => ?_ | refine kC (fun _ => ?_) fun _ => ?_ | (apply cx139; refine kl tx139 ?_) | refine jst ?_ | exact ⟨rfl, rfl⟩ | exact jV | fail))
              · exact ⟨vB0 (bOf_n fun q => q.idx a ha2 b hb3 (ba_eq ‹_›)), rfl⟩
              · refine ⟨⟨b + 1, by omega, all_suc hb.2 hb3 (fun e => absurd (congrArg ByteArray.toList e) ‹_›)⟩, by simp only; omega, ?_⟩
                exact jw []
            · obtain rfl : b = a := by omega
              repeat' ((conv => whnf); (first | refine k0 ?_ | refine jA fun _ => ?_ | refine jB fun _ => ?_ | refine kC (fun _ => ?_) fun _ => ?_ | (apply cx139; refine kl tx139 ?_) | refine jst ?_ | exact ⟨rfl, rfl⟩ | exact jV | fail))
              refine ⟨⟨b + 1, by omega, all_suc ha.2 ha2 (fun k hk => hb.2 k hk hk)⟩, by simp only; omega, ?_⟩
              exact jw []
        · obtain rfl : a = d.idx.length := by omega
          repeat' ((conv => whnf); (first | refine k0 ?_ | refine jA fun _ => ?_ | refine jB fun _ => ?_ | refine kC (fun _ => ?_) fun _ => ?_ | (apply cx139; refine kl tx139 ?_) | refine jst ?_ | exact ⟨rfl, rfl⟩ | exact jV | fail))
          exact ⟨vB1 (bOf_y ⟨hcc, fun i h j hj => ha.2 i h h j hj⟩), rfl⟩

theorem cx105 {P : Program} {X : FuncId → List Arg → List (Bool × List Cell) → List (Option (List Cell)) → Prop} {a : List Arg} {Q : List (Bool × List Cell) → List (Option (List Cell)) → Prop} (h : ∃ b vals outs, a = b ∧ D P X (.call 105 b vals outs) ∧ Q vals outs) : CallS P X 105 a Q := ⟨h⟩

set_option maxRecDepth 100000 in
theorem tx123 {d : Df} {l : List By} (hd : zDf d ≤ 2000000 := by first | assumption | omega | (simp; done) | (simp; omega)) (hl : l.length ≤ 2000000 := by first | assumption | omega | (simp; done) | (simp; omega)) : T 123 [.val true (dfC false d), aE l] [vB (prtOk d.cols.length l)] [none, none] := by
  refine w_call md [] Tryz.func123 rfl ?_
  obtain ⟨q1, q2, q3, q4, q5, q6⟩ := zDf_b hd
  repeat' ((conv => whnf); (first | refine k0 ?_ | refine jA fun _ => ?_ | refine jB fun _ => ?_ | refine kC (fun _ => ?_) fun _ => ?_ | (apply cx48; refine kl tx48 ?_) | refine jst ?_ | exact ⟨rfl, rfl⟩ | exact jV | fail))
  conv => whnf
  refine loopk (ι := Nat) (fun i => i ≤ l.length ∧ ∀ j (h : j < l.length), j < i → PrtI d.cols.length l j h) (fun i => l.length - i) (0) [1, 2, 9, 10] (fun i => [(11, .v false [i6 i])]) [none, none, none] ?_
  refine ⟨⟨by omega, by intros; omega⟩, ?_, fun a ha => ?_⟩
  · exact jw []
  · repeat' ((conv => whnf); (first | refine k0 ?_ | (apply cx48; refine kl tx48 ?_) | refine jst ?_ | exact ⟨rfl, rfl⟩ | exact jV | fail))
    conv => whnf
    refine ⟨fun hlt => ?_, fun hge => ?_⟩
    · have ha2 : a < l.length := by omega
      have htk : (l.take a).length = a := by rw [List.length_take]; omega
      by_cases hin : inB l[a].col 0 ((d.cols.length : Int) - 1) = true
      · have hI : T 48 [aI l[a].col, aI 0, aI ((d.cols.length : Int) - 1)] [vB true] [none, none, none] := by
          have h := tx48 (n := l[a].col) (l := 0) (h := (d.cols.length : Int) - 1)
          rwa [hin] at h
        repeat' ((conv => whnf); (first | (apply cx48; refine kl (hI) ?_) | refine Exists.intro _ (Exists.intro _ (Exists.intro _ (And.intro rfl (And.intro bndN (And.intro (sl_to (by omega)) ?_))))) | refine k0 ?_ | refine jA fun _ => ?_ | refine jB fun _ => ?_ | refine kC (fun _ => ?_) fun _ => ?_ | (apply cx48; refine kl tx48 ?_) | refine jst ?_ | exact ⟨rfl, rfl⟩ | exact jV | fail))
        conv => whnf
        refine loopk (ι := Nat) (fun i => i ≤ a ∧ ∀ k (hk : k < a), k < i → l[k].col ≠ l[a].col) (fun i => a - i) (0) [1, 2, 6, 9, 10, 11, 26, 27] (fun i => [(28, .v false [i6 i])]) [none, none, none, none] ?_
        refine ⟨⟨by omega, by intros; omega⟩, ?_, fun b hb => ?_⟩
        · exact jw []
        · repeat' ((conv => whnf); (first | refine k0 ?_ | (apply cx48; refine kl tx48 ?_) | refine jst ?_ | exact ⟨rfl, rfl⟩ | exact jV | fail))
          conv => whnf
          refine ⟨fun hlt => ?_, fun hge => ?_⟩
          · have hb2 : b < (l.take a).length := by omega
            have hb3 : b < a := by omega
            have eg : (l.take a)[b] = l[b] := List.getElem_take
            repeat' ((conv => whnf); (first | refine k0 ?_ | refine jA fun _ => ?_ | refine jB fun _ => ?_ | refine kC (fun _ => ?_) fun _ => ?_ | (apply cx48; refine kl tx48 ?_) | refine jst ?_ | exact ⟨rfl, rfl⟩ | exact jV | fail))
            · have e : l[b].col = l[a].col := by rw [← eg]; assumption
              exact ⟨vB0 (bOf_n fun q => (q.prt a ha2).2 b hb3 e), rfl⟩
            · have e : l[b].col ≠ l[a].col := by rw [← eg]; assumption
              refine ⟨⟨b + 1, by omega, all_suc hb.2 hb3 e⟩, by simp only; omega, ?_⟩
              exact jw []
          · obtain rfl : b = a := by omega
            repeat' ((conv => whnf); (first | refine k0 ?_ | refine jA fun _ => ?_ | refine jB fun _ => ?_ | refine kC (fun _ => ?_) fun _ => ?_ | (apply cx48; refine kl tx48 ?_) | refine jst ?_ | exact ⟨rfl, rfl⟩ | exact jV | fail))
            refine ⟨⟨b + 1, by omega, all_suc ha.2 ha2 ⟨hin, fun k hk => hb.2 k hk hk⟩⟩, by simp only; omega, ?_⟩
            exact jw []
      · have hinf : inB l[a].col 0 ((d.cols.length : Int) - 1) = false := by cases h : inB l[a].col 0 ((d.cols.length : Int) - 1) with
          | true => exact absurd h hin
          | false => rfl
        have hI : T 48 [aI l[a].col, aI 0, aI ((d.cols.length : Int) - 1)] [vB false] [none, none, none] := by
          have h := tx48 (n := l[a].col) (l := 0) (h := (d.cols.length : Int) - 1)
          rwa [hinf] at h
        repeat' ((conv => whnf); (first | (apply cx48; refine kl (hI) ?_) | refine k0 ?_ | refine jA fun _ => ?_ | refine jB fun _ => ?_ | refine kC (fun _ => ?_) fun _ => ?_ | (apply cx48; refine kl tx48 ?_) | refine jst ?_ | exact ⟨rfl, rfl⟩ | exact jV | fail))
        exact ⟨vB0 (bOf_n fun q => hin (q.prt a ha2).1), rfl⟩
    · obtain rfl : a = l.length := by omega
      repeat' ((conv => whnf); (first | refine k0 ?_ | refine jA fun _ => ?_ | refine jB fun _ => ?_ | refine kC (fun _ => ?_) fun _ => ?_ | (apply cx48; refine kl tx48 ?_) | refine jst ?_ | exact ⟨rfl, rfl⟩ | exact jV | fail))
      · exact ⟨vB1 (bOf_y ⟨‹_ = true›, fun j h => ha.2 j h h⟩), rfl⟩
      · exact ⟨vB0 (bOf_n fun q => bft ‹_ = false› q.len), rfl⟩

theorem cx123 {P : Program} {X : FuncId → List Arg → List (Bool × List Cell) → List (Option (List Cell)) → Prop} {a : List Arg} {Q : List (Bool × List Cell) → List (Option (List Cell)) → Prop} (h : ∃ b vals outs, a = b ∧ D P X (.call 123 b vals outs) ∧ Q vals outs) : CallS P X 123 a Q := ⟨h⟩

set_option maxRecDepth 100000 in
theorem tx140 {d : Df} {l : List By} (hd : zDf d ≤ 2000000 := by first | assumption | omega | (simp; done) | (simp; omega)) (hl : l.length ≤ 2000000 := by first | assumption | omega | (simp; done) | (simp; omega)) : T 140 [.val true (dfC false d), aE l] [vB (prtOk d.cols.length l)] [none, none] := by
  refine w_call md [] Tryz.func140 rfl ?_
  obtain ⟨q1, q2, q3, q4, q5, q6⟩ := zDf_b hd
  repeat' ((conv => whnf); (first | refine k0 ?_ | refine jA fun _ => ?_ | refine jB fun _ => ?_ | refine kC (fun _ => ?_) fun _ => ?_ | (apply cx88; refine kl tx88 ?_) | refine jst ?_ | exact ⟨rfl, rfl⟩ | exact jV | fail))
  conv => whnf
  refine loopk (ι := Nat) (fun i => i ≤ l.length ∧ ∀ j (h : j < l.length), j < i → inB l[j].col 0 ((d.cols.length : Int) - 1) = true ∧ (0 < j → l[0].col ≠ l[j].col)) (fun i => l.length - i) (0) [1, 2] (fun i => [(5, .v false [i6 i])]) [none, none, none] ?_
  refine ⟨⟨by omega, by intros; omega⟩, ?_, fun a ha => ?_⟩
  · exact jw []
  · repeat' ((conv => whnf); (first | refine k0 ?_ | (apply cx88; refine kl tx88 ?_) | refine jst ?_ | exact ⟨rfl, rfl⟩ | exact jV | fail))
    conv => whnf
    refine ⟨fun hlt => ?_, fun hge => ?_⟩
    · have ha2 : a < l.length := by omega
      have h0 : 0 < l.length := by omega
      by_cases hin : inB l[a].col 0 ((d.cols.length : Int) - 1) = true
      · have hI : T 88 [aI l[a].col, aI 0, aI ((d.cols.length : Int) - 1)] [vB true] [none, none, none] := by
          have h := tx88 (n := l[a].col) (l := 0) (h := (d.cols.length : Int) - 1)
          rwa [hin] at h
        by_cases hz : a = 0
        · subst hz
          repeat' ((conv => whnf); (first | (apply cx88; refine kl (hI) ?_) | refine k0 ?_ | refine jA fun _ => ?_ | refine jB fun _ => ?_ | refine kC (fun _ => ?_) fun _ => ?_ | (apply cx88; refine kl tx88 ?_) | refine jst ?_ | exact ⟨rfl, rfl⟩ | exact jV | fail))
          refine ⟨⟨0 + 1, by omega, all_suc ha.2 ha2 ⟨hin, fun q => by omega⟩⟩, by simp only; omega, ?_⟩
          exact jw []
        · by_cases hq : l[0].col = l[a].col
          · repeat' ((conv => whnf); (first | (apply cx88; refine kl (hI) ?_) | refine And.intro ⟨by omega, by omega⟩ (Exists.intro _ (And.intro (rdI (i := 0) (by omega) (by omega)) ?_)) | refine k0 ?_ | refine jA fun _ => ?_ | refine jB fun _ => ?_ | refine kC (fun _ => ?_) fun _ => ?_ | (apply cx88; refine kl tx88 ?_) | refine jst ?_ | exact ⟨rfl, rfl⟩ | exact jV | fail))
            exact ⟨vB0 (bOf_n fun q => (q.prt a ha2).2 0 (by omega) hq), rfl⟩
          · repeat' ((conv => whnf); (first | (apply cx88; refine kl (hI) ?_) | refine And.intro ⟨by omega, by omega⟩ (Exists.intro _ (And.intro (rdI (i := 0) (by omega) (by omega)) ?_)) | refine k0 ?_ | refine jA fun _ => ?_ | refine jB fun _ => ?_ | refine kC (fun _ => ?_) fun _ => ?_ | (apply cx88; refine kl tx88 ?_) | refine jst ?_ | exact ⟨rfl, rfl⟩ | exact jV | fail))
            refine ⟨⟨a + 1, by omega, all_suc ha.2 ha2 ⟨hin, fun _ => hq⟩⟩, by simp only; omega, ?_⟩
            exact jw []
      · have hinf : inB l[a].col 0 ((d.cols.length : Int) - 1) = false := by cases h : inB l[a].col 0 ((d.cols.length : Int) - 1) with
          | true => exact absurd h hin
          | false => rfl
        have hI : T 88 [aI l[a].col, aI 0, aI ((d.cols.length : Int) - 1)] [vB false] [none, none, none] := by
          have h := tx88 (n := l[a].col) (l := 0) (h := (d.cols.length : Int) - 1)
          rwa [hinf] at h
        repeat' ((conv => whnf); (first | (apply cx88; refine kl (hI) ?_) | refine k0 ?_ | refine jA fun _ => ?_ | refine jB fun _ => ?_ | refine kC (fun _ => ?_) fun _ => ?_ | (apply cx88; refine kl tx88 ?_) | refine jst ?_ | exact ⟨rfl, rfl⟩ | exact jV | fail))
        exact ⟨vB0 (bOf_n fun q => hin (q.prt a ha2).1), rfl⟩
    · obtain rfl : a = l.length := by omega
      repeat' ((conv => whnf); (first | refine k0 ?_ | refine jA fun _ => ?_ | refine jB fun _ => ?_ | refine kC (fun _ => ?_) fun _ => ?_ | (apply cx88; refine kl tx88 ?_) | refine jst ?_ | exact ⟨rfl, rfl⟩ | exact jV | fail))
      · have h2 := inB_iff.1 ‹inB _ _ _ = true›
        exact ⟨vB1 (bOf_y ⟨‹_ = true›, fun j h => ⟨(ha.2 j h h).1, fun k hk => by
          obtain rfl : k = 0 := by omega
          exact (ha.2 j h h).2 (by omega)⟩⟩), rfl⟩
      · exact ⟨vB0 (bOf_n fun q => bft ‹_ = false› q.len), rfl⟩

theorem cx140 {P : Program} {X : FuncId → List Arg → List (Bool × List Cell) → List (Option (List Cell)) → Prop} {a : List Arg} {Q : List (Bool × List Cell) → List (Option (List Cell)) → Prop} (h : ∃ b vals outs, a = b ∧ D P X (.call 140 b vals outs) ∧ Q vals outs) : CallS P X 140 a Q := ⟨h⟩

set_option maxRecDepth 100000 in
theorem tx106 {d : Df} (hd : zDf d ≤ 2000000 := by first | assumption | omega | (simp; done) | (simp; omega)) : T 106 [.val true (dfC false d)] [vB (allOk d)] [none] := by
  refine w_call md [] Tryz.func106 rfl ?_
  obtain ⟨q1, q2, q3, q4, q5, q6⟩ := zDf_b hd
  repeat' ((conv => whnf); (first | refine k0 ?_ | refine jA fun _ => ?_ | refine jB fun _ => ?_ | refine kC (fun _ => ?_) fun _ => ?_ | (apply cx140; refine kl tx140 ?_) | refine jst ?_ | exact ⟨rfl, rfl⟩ | exact jV | fail))
  conv => whnf
  refine loopk (ι := Nat) (fun i => i ≤ d.idx.length ∧ ∀ j (h : j < d.idx.length), j < i → prtOk d.cols.length d.idx[j].parts = true) (fun i => d.idx.length - i) (0) [1] (fun i => [(3, .v false [i6 i])]) [none, none] ?_
  refine ⟨⟨by omega, by intros; omega⟩, ?_, fun i hi => ?_⟩
  · exact jw []
  · repeat' ((conv => whnf); (first | refine k0 ?_ | (apply cx140; refine kl tx140 ?_) | refine jst ?_ | exact ⟨rfl, rfl⟩ | exact jV | fail))
    conv => whnf
    refine ⟨fun hlt => ?_, fun hge => ?_⟩
    · have hi2 : i < d.idx.length := by omega
      have hb := (q6 i hi2).2
      repeat' ((conv => whnf); (first | (apply cx140; refine kl (tx140 (d := d) (l := d.idx[i].parts)) ?_) | refine k0 ?_ | refine jA fun _ => ?_ | refine jB fun _ => ?_ | refine kC (fun _ => ?_) fun _ => ?_ | (apply cx140; refine kl tx140 ?_) | refine jst ?_ | exact ⟨rfl, rfl⟩ | exact jV | fail))
      · refine ⟨⟨i + 1, by omega, all_suc hi.2 hi2 ‹_ = true›⟩, by simp only; omega, ?_⟩
        exact jw []
      · exact ⟨vB0 (bOf_n fun q => bft ‹_ = false› (q.idx i hi2)), rfl⟩
    · obtain rfl : i = d.idx.length := by omega
      repeat' ((conv => whnf); (first | (apply cx140; refine kl (tx140 (d := d) (l := d.prim)) ?_) | refine k0 ?_ | refine jA fun _ => ?_ | refine jB fun _ => ?_ | refine kC (fun _ => ?_) fun _ => ?_ | (apply cx140; refine kl tx140 ?_) | refine jst ?_ | exact ⟨rfl, rfl⟩ | exact jV | fail))
      · exact ⟨vB1 (bOf_y ⟨fun j h => hi.2 j h h, ‹_ = true›⟩), rfl⟩
      · exact ⟨vB0 (bOf_n fun q => bft ‹_ = false› q.prim), rfl⟩

theorem cx106 {P : Program} {X : FuncId → List Arg → List (Bool × List Cell) → List (Option (List Cell)) → Prop} {a : List Arg} {Q : List (Bool × List Cell) → List (Option (List Cell)) → Prop} (h : ∃ b vals outs, a = b ∧ D P X (.call 106 b vals outs) ∧ Q vals outs) : CallS P X 106 a Q := ⟨h⟩

end Go.Proofs.YtopnaijeicknoaaGreatDoor
