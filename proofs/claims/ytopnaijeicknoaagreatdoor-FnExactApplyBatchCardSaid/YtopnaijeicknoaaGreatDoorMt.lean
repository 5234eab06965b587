/- Functions of the program, each with what it gives back. -/
import Derived.Test.YtopnaijeicknoaaGreatDoorKe
import Derived.Test.YtopnaijeicknoaaGreatDoorChecked
import Derived.IntWalk
import Derived.Test.YtopnaijeicknoaaGreatDoorMs
namespace Go.Proofs.YtopnaijeicknoaaGreatDoor
open Go Go.RowKit Go.IntWalk
open Enc (sz cs)
attribute [local irreducible] IntKind.wrap

/-! ### Keys of rows -/
attribute [local irreducible] ptsO ptO pkR ppN bOf fstI fbN cdN kyB enB ixN rpN
noncomputable def plN (d : Df) (i : Int) : List Prt := if i < 0 then ppN d else ixN d i
theorem plN_p {d : Df} {i : Int} (h : i < 0) : plN d i = ppN d := if_pos h
theorem plN_i {d : Df} {i : Int} (h : ¬ i < 0) : plN d i = ixN d i := if_neg h
theorem plN_len {d : Df} {i : Int} : (plN d i).length ≤ 4 := by
  unfold plN
  split
  · have := ppN_len (d := d); omega
  · exact ixN_len
theorem pkR_sz {l : List Prt} {r : List Vl} {N : Nat} (h : ∀ i (h : i < r.length), r[i].s.size ≤ N) : ∀ i (h : i < (pkR l r).length), (pkR l r)[i].s.size ≤ N := by
  intro i hi
  have hi2 : i < l.length := by rwa [pkR_len] at hi
  have e : (pkR l r)[i] = pkV r l[i] := by simp only [pkR, List.getElem_map]
  rw [e]
  by_cases hin : inB l[i].col 0 ((r.length : Int) - 1) = true
  · have hb := inB_iff.1 hin
    have h2 : l[i].col.toNat < r.length := by omega
    rw [pkV_y hin h2]
    exact h _ h2
  · rw [pkV_n (bNt hin)]
    exact Nat.zero_le _
theorem kyB_len (l : List Prt) (r : List Vl) : (kyB l r).length ≤ 414 := by
  cases h1 : plOk l with
  | false => rw [kyB_0 (.inl h1)]; exact Nat.zero_le _
  | true => cases h2 : faOk l r with
    | false => rw [kyB_0 (.inr h2)]; exact Nat.zero_le _
    | true =>
      rw [kyB_1 h1 h2]
      have := kyN_len (bOf_t h2) r.length (Nat.le_refl _)
      have := (bOf_t h1).len
      have := (bOf_t h2).len
      omega
theorem enB_len (l : List Prt) (r : List Vl) : (enB l r).length ≤ 300 := by
  cases h1 : roOk l r with
  | false => rw [enB_0 h1]; exact Nat.zero_le _
  | true =>
    obtain ⟨q1, q2, q3⟩ := bOf_t h1
    rw [enB_1 h1, ptS, List.length_append]
    have := rwN_len (fun i hi => ((bOf_t q3).val hi).1) r.length (Nat.le_refl _)
    have := (bOf_t q1).len
    simp only [be4, List.length_cons, List.length_nil]
    omega
noncomputable def hdB (s : List Df) (t i : Int) : List UInt8 := match hxN s t i with
  | true => [UInt8.ofNat (t + 1).toNat, UInt8.ofNat (i + 1).toNat]
  | false => []
theorem hdB_y {s : List Df} {t i : Int} (h : hxN s t i = true) : hdB s t i = [UInt8.ofNat (t + 1).toNat, UInt8.ofNat (i + 1).toNat] := by unfold hdB; rw [h]
theorem hdB_n {s : List Df} {t i : Int} (h : hxN s t i = false) : hdB s t i = [] := by unfold hdB; rw [h]
/-- The key of a right row. -/
noncomputable def kyO (d : Df) (k : Nat) (i : Int) (row : List Vl) : List UInt8 := [UInt8.ofNat ((k : Int) + 1).toNat, UInt8.ofNat (i + 1).toNat] ++ kyB (plN d i) (pkR (plN d i) row)
theorem kyO_len {d : Df} {k : Nat} {i : Int} {row : List Vl} : (kyO d k i row).length ≤ 416 := by
  unfold kyO
  rw [List.length_append]
  have := kyB_len (plN d i) (pkR (plN d i) row)
  simp only [List.length_cons, List.length_nil]
  omega
noncomputable def koN (d : Df) (k : Nat) (i : Int) (row : List Vl) : List UInt8 := match roOk (rpN d) row with
  | true => kyO d k i row
  | false => []
theorem koN_y {d : Df} {k : Nat} {i : Int} {row : List Vl} (h : roOk (rpN d) row = true) : koN d k i row = kyO d k i row := by unfold koN; rw [h]
theorem koN_n {d : Df} {k : Nat} {i : Int} {row : List Vl} (h : roOk (rpN d) row = false) : koN d k i row = [] := by unfold koN; rw [h]
abbrev LgK (d : Df) (k : Nat) (row : List Vl) : Prop := roOk (rpN d) row = true ∧ ((∃ j, j < d.idx.length + 1 ∧ 48 < (kyO d k ((j : Int) - 1) row).length) ∨ 60 < (enB (rpN d) row).length)
noncomputable abbrev lkN (d : Df) (k : Nat) (row : List Vl) : Bool := bOf (LgK d k row)
theorem hx_i {s : List Df} {k j : Nat} (h : fbN s = -1) (h2 : k < s.length) (h3 : j < s[k].idx.length + 1) : hxN s k ((j : Int) - 1) = true :=
  bOf_y ⟨h, ⟨by omega, by simpa using h2⟩, inB_iff.2 (by
    have e : (s[((k : Nat) : Int).toNat]'(by simpa using h2)) = s[k] := by simp
    rw [e]; omega)⟩
attribute [local irreducible] kyO koN plN hdB

set_option maxRecDepth 100000 in
theorem tx111 {s : List Df} {t i : Int} (hs : zSc s ≤ 2000000 := by first | assumption | omega | (simp; done) | (simp; omega)) : T 111 [aE s, aI t, aI i] [vB (hxN s t i)] [none, none, none] := by
  refine w_call md [] Tryz.func111 rfl ?_
  obtain ⟨q1, q2⟩ := zSc_b hs
  by_cases h : fbN s = -1
  · have hF : T 31 [aE s] [vI (-1)] [none] := by
      have h2 := tx31 (s := s)
      rwa [h] at h2
    by_cases ht : inB t 0 ((s.length : Int) - 1) = true
    · have hb := inB_iff.1 ht
      have hI : T 88 [aI t, aI 0, aI ((s.length : Int) - 1)] [vB true] [none, none, none] := by
        have h := tx88 (n := t) (l := 0) (h := (s.length : Int) - 1)
        rwa [ht] at h
      have h2 : t.toNat < s.length := by omega
      have hz := zDf_b (q2 _ h2)
      have e : hxN s t i = inB i (-1) ((s[t.toNat].idx.length : Int) - 1) := by
        cases hv : inB i (-1) ((s[t.toNat].idx.length : Int) - 1) with
        | true => exact bOf_y ⟨h, ⟨by omega, h2⟩, hv⟩
        | false =>
          refine bOf_n fun q => ?_
          obtain ⟨_, _, q⟩ := q
          exact bft hv q
      have hq := hz.2.2.2.1
      clear hz
      rw [e]
      repeat' ((conv => whnf); (first | (apply cx31; refine kl (hF) ?_) | (apply cx88; refine kl (hI) ?_) | refine And.intro ⟨by omega, by omega⟩ (Exists.intro _ (And.intro (rdI (i := t.toNat) (by omega) (by omega)) ?_)) | (apply cx88; refine kl (tx88 (n := i) (l := -1) (h := (s[t.toNat].idx.length : Int) - 1)) ?_) | refine k0 ?_ | refine jA fun _ => ?_ | refine jB fun _ => ?_ | refine kC (fun _ => ?_) fun _ => ?_ | (apply cx31; refine kl tx31 ?_) | (apply cx88; refine kl tx88 ?_) | refine jst ?_ | exact ⟨rfl, rfl⟩ | exact jV | fail))
      all_goals first | exact ⟨vB1 (by assumption), rfl⟩ | exact ⟨vB0 (by assumption), rfl⟩
    · have hI : T 88 [aI t, aI 0, aI ((s.length : Int) - 1)] [vB false] [none, none, none] := by
        have h := tx88 (n := t) (l := 0) (h := (s.length : Int) - 1)
        rwa [bNt ht] at h
      repeat' ((conv => whnf); (first | (apply cx31; refine kl (hF) ?_) | (apply cx88; refine kl (hI) ?_) | refine k0 ?_ | refine jA fun _ => ?_ | refine jB fun _ => ?_ | refine kC (fun _ => ?_) fun _ => ?_ | (apply cx31; refine kl tx31 ?_) | (apply cx88; refine kl tx88 ?_) | refine jst ?_ | exact ⟨rfl, rfl⟩ | exact jV | fail))
      exact ⟨vB0 (bOf_n fun q => by
        obtain ⟨_, hq, _⟩ := q
        exact ht (inB_iff.2 (by omega))), rfl⟩
  · repeat' ((conv => whnf); (first | (apply cx31; refine kl (tx31 (s := s)) ?_) | refine k0 ?_ | refine jA fun _ => ?_ | refine jB fun _ => ?_ | refine kC (fun _ => ?_) fun _ => ?_ | (apply cx31; refine kl tx31 ?_) | (apply cx88; refine kl tx88 ?_) | refine jst ?_ | exact ⟨rfl, rfl⟩ | exact jV | fail))
    exact ⟨vB0 (bOf_n fun q => h q.1), rfl⟩

theorem cx111 {P : Program} {X : FuncId → List Arg → List (Bool × List Cell) → List (Option (List Cell)) → Prop} {a : List Arg} {Q : List (Bool × List Cell) → List (Option (List Cell)) → Prop} (h : ∃ b vals outs, a = b ∧ D P X (.call 111 b vals outs) ∧ Q vals outs) : CallS P X 111 a Q := ⟨h⟩

set_option maxRecDepth 100000 in
theorem tx172 {d : Df} {i : Int} (hd : zDf d ≤ 2000000 := by first | assumption | omega | (simp; done) | (simp; omega)) (hi : -1 ≤ i := by first | assumption | omega | (simp; done) | (simp; omega)) : T 172 [.val true (dfC false d), aI i] [vE (plN d i)] [none, none] := by
  refine w_call md [[4]] Tryz.func172 rfl ?_
  by_cases h : i < 0
  · rw [plN_p h]
    repeat' ((conv => whnf); (first | refine k0 ?_ | refine jA fun _ => ?_ | refine jB fun _ => ?_ | refine kC (fun _ => ?_) fun _ => ?_ | (apply cx76; refine kl tx76 ?_) | (apply cx160; refine kl tx160 ?_) | refine jst ?_ | exact ⟨rfl, rfl⟩ | exact jV | fail))
  · rw [plN_i h]
    repeat' ((conv => whnf); (first | refine k0 ?_ | refine jA fun _ => ?_ | refine jB fun _ => ?_ | refine kC (fun _ => ?_) fun _ => ?_ | (apply cx76; refine kl tx76 ?_) | (apply cx160; refine kl tx160 ?_) | refine jst ?_ | exact ⟨rfl, rfl⟩ | exact jV | fail))

theorem cx172 {P : Program} {X : FuncId → List Arg → List (Bool × List Cell) → List (Option (List Cell)) → Prop} {a : List Arg} {Q : List (Bool × List Cell) → List (Option (List Cell)) → Prop} (h : ∃ b vals outs, a = b ∧ D P X (.call 172 b vals outs) ∧ Q vals outs) : CallS P X 172 a Q := ⟨h⟩

set_option maxRecDepth 100000 in
theorem tx173 {s : List Df} {t i : Int} (hs : zSc s ≤ 2000000 := by first | assumption | omega | (simp; done) | (simp; omega)) (hi : -1 ≤ i ∧ i ≤ 2000000 := by first | assumption | omega | (simp; done) | (simp; omega)) : T 173 [aE s, aI t, aI i] [vE (hdB s t i)] [none, none, none] := by
  refine w_call md [[1]] Tryz.func173 rfl ?_
  have hX : T 127 [aE s, aI t, aI i] [vB (hxN s t i)] [none, none, none] := tx127
  obtain ⟨hi1, hi2⟩ := hi
  have hs2 := (zSc_b hs).1
  cases hx : hxN s t i
  · rw [hx] at hX
    rw [hdB_n hx]
    repeat' ((conv => whnf); (first | (apply cx127; refine kl (hX) ?_) | refine k0 ?_ | refine jA fun _ => ?_ | refine jB fun _ => ?_ | refine kC (fun _ => ?_) fun _ => ?_ | (apply cx127; refine kl tx127 ?_) | refine jst ?_ | exact ⟨rfl, rfl⟩ | exact jV | fail))
  · rw [hx] at hX
    rw [hdB_y hx]
    obtain ⟨_, ⟨ht, ht2⟩, _⟩ := bOf_t hx
    obtain ⟨a, ha⟩ : ∃ a : Nat, t + 1 = a := ⟨(t + 1).toNat, by omega⟩
    obtain ⟨b, hb⟩ : ∃ b : Nat, i + 1 = b := ⟨(i + 1).toNat, by omega⟩
    rw [ha, hb]
    repeat' ((conv => whnf); (first | (apply cx127; refine kl (hX) ?_) | refine Exists.intro (a : Int) (And.intro ((i64_in _ (by omega)).trans ha) ?_) | refine Exists.intro (b : Int) (And.intro ((i64_in _ (by omega)).trans hb) ?_) | refine Exists.intro _ (And.intro (u8n _) ?_) | refine k0 ?_ | refine jA fun _ => ?_ | refine jB fun _ => ?_ | refine kC (fun _ => ?_) fun _ => ?_ | (apply cx127; refine kl tx127 ?_) | refine jst ?_ | exact ⟨rfl, rfl⟩ | exact jV | fail))

theorem cx173 {P : Program} {X : FuncId → List Arg → List (Bool × List Cell) → List (Option (List Cell)) → Prop} {a : List Arg} {Q : List (Bool × List Cell) → List (Option (List Cell)) → Prop} (h : ∃ b vals outs, a = b ∧ D P X (.call 173 b vals outs) ∧ Q vals outs) : CallS P X 173 a Q := ⟨h⟩

set_option maxHeartbeats 2000000 in
set_option maxRecDepth 100000 in
theorem tx154 {s : List Df} {k : Nat} {i : Int} {row : List Vl} (hk : k < s.length := by first | assumption | omega | (simp; done) | (simp; omega)) (hs : zSc s ≤ 2000000 := by first | assumption | omega | (simp; done) | (simp; omega)) (hi : -1 ≤ i ∧ i ≤ 2000000 := by first | assumption | omega | (simp; done) | (simp; omega)) (hx : hxN s k i = true := by first | assumption | omega | (simp; done) | (simp; omega)) (hr : row.length ≤ 2000000 ∧ ∀ i (h : i < row.length), row[i].s.size ≤ 2000000 := by first | assumption | omega | (simp; done) | (simp; omega)) : T 154 [aE s, aI (k : Nat), aI i, aE row] [vE (kyO s[k] k i row)] [none, none, none, none] := by
  refine w_call md [[1]] Tryz.func154 rfl ?_
  have hs2 := zSc_b hs
  have hz := hs2.2 k hk
  obtain ⟨hr1, hr2⟩ := hr
  obtain ⟨hi1, hi2⟩ := hi
  have hpl := plN_len (d := s[k]) (i := i)
  have hp := pkR_len (l := plN s[k] i) (r := row)
  have hps : (pkR (plN s[k] i) row).length ≤ 2000000 ∧ ∀ j (h : j < (pkR (plN s[k] i) row).length), (pkR (plN s[k] i) row)[j].s.size ≤ 2000000 := ⟨by omega, pkR_sz (l := plN s[k] i) hr2⟩
  have hkl := kyB_len (plN s[k] i) (pkR (plN s[k] i) row)
  have hH : T 173 [aE s, aI (k : Nat), aI i] [vE [UInt8.ofNat ((k : Int) + 1).toNat, UInt8.ofNat (i + 1).toNat]] [none, none, none] := by
    have h := tx173 (s := s) (t := k) (i := i)
    rwa [hdB_y hx] at h
  unfold kyO
  have hl2 : [UInt8.ofNat ((k : Int) + 1).toNat, UInt8.ofNat (i + 1).toNat].length = 2 := rfl
  generalize [UInt8.ofNat ((k : Int) + 1).toNat, UInt8.ofNat (i + 1).toNat] = hd at *
  repeat' ((conv => whnf); (first | refine And.intro ⟨by omega, by omega⟩ (Exists.intro _ (And.intro (rdI (i := k) (by omega) (by omega)) ?_)) | (apply cx172; refine kl (tx172 (d := s[k]) (i := i)) ?_) | (apply cx173; refine kl (hH) ?_) | (apply cx80; refine kl (tx80 (l := plN s[k] i) (r := row)) ?_) | (apply cx174; refine kl (tx174 (l := plN s[k] i) (r := pkR (plN s[k] i) row)) ?_) | refine Exists.intro _ (Exists.intro _ (And.intro (srcO (α := UInt8) (xs := kyB (plN s[k] i) (pkR (plN s[k] i) row)) rfl rfl) (And.intro ⟨by simp, bgb (by omega), bg (by omega)⟩ (apE (xs := hd) (ys := kyB (plN s[k] i) (pkR (plN s[k] i) row)) ?_)))) | refine k0 ?_ | refine jA fun _ => ?_ | refine jB fun _ => ?_ | refine kC (fun _ => ?_) fun _ => ?_ | (apply cx172; refine kl tx172 ?_) | (apply cx173; refine kl tx173 ?_) | (apply cx80; refine kl tx80 ?_) | (apply cx174; refine kl tx174 ?_) | refine jst ?_ | exact ⟨rfl, rfl⟩ | exact jV | fail))

theorem cx154 {P : Program} {X : FuncId → List Arg → List (Bool × List Cell) → List (Option (List Cell)) → Prop} {a : List Arg} {Q : List (Bool × List Cell) → List (Option (List Cell)) → Prop} (h : ∃ b vals outs, a = b ∧ D P X (.call 154 b vals outs) ∧ Q vals outs) : CallS P X 154 a Q := ⟨h⟩

set_option maxRecDepth 100000 in
theorem tx128 {s : List Df} {k : Nat} {i : Int} {row : List Vl} (hk : k < s.length := by first | assumption | omega | (simp; done) | (simp; omega)) (hs : zSc s ≤ 2000000 := by first | assumption | omega | (simp; done) | (simp; omega)) (hi : -1 ≤ i ∧ i ≤ 2000000 := by first | assumption | omega | (simp; done) | (simp; omega)) (hx : hxN s k i = true := by first | assumption | omega | (simp; done) | (simp; omega)) (hr : row.length ≤ 2000000 ∧ ∀ i (h : i < row.length), row[i].s.size ≤ 2000000 := by first | assumption | omega | (simp; done) | (simp; omega)) : T 128 [aE s, aI (k : Nat), aI i, aE row] [vE (koN s[k] k i row)] [none, none, none, none] := by
  refine w_call md [[1]] Tryz.func128 rfl ?_
  have hs2 := zSc_b hs
  have hz := hs2.2 k hk
  have hX : T 127 [aE s, aI (k : Nat), aI i] [vB true] [none, none, none] := by
    have h := tx127 (s := s) (t := k) (i := i)
    rwa [hx] at h
  have hrl := rpN_len (d := s[k])
  have hR : T 77 [aE (rpN s[k]), aE row] [vB (roOk (rpN s[k]) row)] [none, none] := tx77
  cases h : roOk (rpN s[k]) row
  · rw [h] at hR
    rw [koN_n h]
    repeat' ((conv => whnf); (first | (apply cx127; refine kl (hX) ?_) | refine And.intro ⟨by omega, by omega⟩ (Exists.intro _ (And.intro (rdI (i := k) (by omega) (by omega)) ?_)) | (apply cx75; refine kl (tx75 (d := s[k])) ?_) | (apply cx77; refine kl (hR) ?_) | refine k0 ?_ | refine jA fun _ => ?_ | refine jB fun _ => ?_ | refine kC (fun _ => ?_) fun _ => ?_ | (apply cx127; refine kl tx127 ?_) | (apply cx75; refine kl tx75 ?_) | (apply cx77; refine kl tx77 ?_) | (apply cx154; refine kl tx154 ?_) | refine jst ?_ | exact ⟨rfl, rfl⟩ | exact jV | fail))
  · rw [h] at hR
    rw [koN_y h]
    repeat' ((conv => whnf); (first | (apply cx127; refine kl (hX) ?_) | refine And.intro ⟨by omega, by omega⟩ (Exists.intro _ (And.intro (rdI (i := k) (by omega) (by omega)) ?_)) | (apply cx75; refine kl (tx75 (d := s[k])) ?_) | (apply cx77; refine kl (hR) ?_) | (apply cx154; refine kl (tx154 (s := s) (k := k) (i := i) (row := row)) ?_) | refine k0 ?_ | refine jA fun _ => ?_ | refine jB fun _ => ?_ | refine kC (fun _ => ?_) fun _ => ?_ | (apply cx127; refine kl tx127 ?_) | (apply cx75; refine kl tx75 ?_) | (apply cx77; refine kl tx77 ?_) | (apply cx154; refine kl tx154 ?_) | refine jst ?_ | exact ⟨rfl, rfl⟩ | exact jV | fail))

theorem cx128 {P : Program} {X : FuncId → List Arg → List (Bool × List Cell) → List (Option (List Cell)) → Prop} {a : List Arg} {Q : List (Bool × List Cell) → List (Option (List Cell)) → Prop} (h : ∃ b vals outs, a = b ∧ D P X (.call 128 b vals outs) ∧ Q vals outs) : CallS P X 128 a Q := ⟨h⟩

set_option maxRecDepth 100000 in
theorem tx143 {d : Df} {i : Int} (hd : zDf d ≤ 2000000 := by first | assumption | omega | (simp; done) | (simp; omega)) (hi : -1 ≤ i := by first | assumption | omega | (simp; done) | (simp; omega)) : T 143 [.val true (dfC false d), aI i] [vE (plN d i)] [none, none] := by
  refine w_call md [] Tryz.func143 rfl ?_
  by_cases h : i < 0
  · rw [plN_p h]
    repeat' ((conv => whnf); (first | refine k0 ?_ | refine jA fun _ => ?_ | refine jB fun _ => ?_ | refine kC (fun _ => ?_) fun _ => ?_ | (apply cx64; refine kl tx64 ?_) | (apply cx164; refine kl tx164 ?_) | refine jst ?_ | exact ⟨rfl, rfl⟩ | exact jV | fail))
  · rw [plN_i h]
    repeat' ((conv => whnf); (first | refine k0 ?_ | refine jA fun _ => ?_ | refine jB fun _ => ?_ | refine kC (fun _ => ?_) fun _ => ?_ | (apply cx64; refine kl tx64 ?_) | (apply cx164; refine kl tx164 ?_) | refine jst ?_ | exact ⟨rfl, rfl⟩ | exact jV | fail))

theorem cx143 {P : Program} {X : FuncId → List Arg → List (Bool × List Cell) → List (Option (List Cell)) → Prop} {a : List Arg} {Q : List (Bool × List Cell) → List (Option (List Cell)) → Prop} (h : ∃ b vals outs, a = b ∧ D P X (.call 143 b vals outs) ∧ Q vals outs) : CallS P X 143 a Q := ⟨h⟩

set_option maxRecDepth 100000 in
theorem tx144 {s : List Df} {t i : Int} (hs : zSc s ≤ 2000000 := by first | assumption | omega | (simp; done) | (simp; omega)) (hi : -1 ≤ i ∧ i ≤ 2000000 := by first | assumption | omega | (simp; done) | (simp; omega)) : T 144 [aE s, aI t, aI i] [vE (hdB s t i)] [none, none, none] := by
  refine w_call md [] Tryz.func144 rfl ?_
  have hX : T 111 [aE s, aI t, aI i] [vB (hxN s t i)] [none, none, none] := tx111
  obtain ⟨hi1, hi2⟩ := hi
  have hs2 := (zSc_b hs).1
  cases hx : hxN s t i
  · rw [hx] at hX
    rw [hdB_n hx]
    repeat' ((conv => whnf); (first | (apply cx111; refine kl (hX) ?_) | refine k0 ?_ | refine jA fun _ => ?_ | refine jB fun _ => ?_ | refine kC (fun _ => ?_) fun _ => ?_ | (apply cx111; refine kl tx111 ?_) | refine jst ?_ | exact ⟨rfl, rfl⟩ | exact jV | fail))
  · rw [hx] at hX
    rw [hdB_y hx]
    obtain ⟨_, ⟨ht, ht2⟩, _⟩ := bOf_t hx
    obtain ⟨a, ha⟩ : ∃ a : Nat, t + 1 = a := ⟨(t + 1).toNat, by omega⟩
    obtain ⟨b, hb⟩ : ∃ b : Nat, i + 1 = b := ⟨(i + 1).toNat, by omega⟩
    rw [ha, hb]
    repeat' ((conv => whnf); (first | (apply cx111; refine kl (hX) ?_) | refine Exists.intro (a : Int) (And.intro ((i64_in _ (by omega)).trans ha) ?_) | refine Exists.intro (b : Int) (And.intro ((i64_in _ (by omega)).trans hb) ?_) | refine Exists.intro _ (And.intro (u8n _) ?_) | refine k0 ?_ | refine jA fun _ => ?_ | refine jB fun _ => ?_ | refine kC (fun _ => ?_) fun _ => ?_ | (apply cx111; refine kl tx111 ?_) | refine jst ?_ | exact ⟨rfl, rfl⟩ | exact jV | fail))

theorem cx144 {P : Program} {X : FuncId → List Arg → List (Bool × List Cell) → List (Option (List Cell)) → Prop} {a : List Arg} {Q : List (Bool × List Cell) → List (Option (List Cell)) → Prop} (h : ∃ b vals outs, a = b ∧ D P X (.call 144 b vals outs) ∧ Q vals outs) : CallS P X 144 a Q := ⟨h⟩

set_option maxHeartbeats 2000000 in
set_option maxRecDepth 100000 in
theorem tx112 {s : List Df} {k : Nat} {i : Int} {row : List Vl} (hk : k < s.length := by first | assumption | omega | (simp; done) | (simp; omega)) (hs : zSc s ≤ 2000000 := by first | assumption | omega | (simp; done) | (simp; omega)) (hi : -1 ≤ i ∧ i ≤ 2000000 := by first | assumption | omega | (simp; done) | (simp; omega)) (hx : hxN s k i = true := by first | assumption | omega | (simp; done) | (simp; omega)) (hr : row.length ≤ 2000000 ∧ ∀ i (h : i < row.length), row[i].s.size ≤ 2000000 := by first | assumption | omega | (simp; done) | (simp; omega)) : T 112 [aE s, aI (k : Nat), aI i, aE row] [vE (kyO s[k] k i row)] [none, none, none, none] := by
  refine w_call md [] Tryz.func112 rfl ?_
  have hs2 := zSc_b hs
  have hz := hs2.2 k hk
  obtain ⟨hr1, hr2⟩ := hr
  obtain ⟨hi1, hi2⟩ := hi
  have hpl := plN_len (d := s[k]) (i := i)
  have hp := pkR_len (l := plN s[k] i) (r := row)
  have hps : (pkR (plN s[k] i) row).length ≤ 2000000 ∧ ∀ j (h : j < (pkR (plN s[k] i) row).length), (pkR (plN s[k] i) row)[j].s.size ≤ 2000000 := ⟨by omega, pkR_sz (l := plN s[k] i) hr2⟩
  have hkl := kyB_len (plN s[k] i) (pkR (plN s[k] i) row)
  have hH : T 144 [aE s, aI (k : Nat), aI i] [vE [UInt8.ofNat ((k : Int) + 1).toNat, UInt8.ofNat (i + 1).toNat]] [none, none, none] := by
    have h := tx144 (s := s) (t := k) (i := i)
    rwa [hdB_y hx] at h
  unfold kyO
  have hl2 : [UInt8.ofNat ((k : Int) + 1).toNat, UInt8.ofNat (i + 1).toNat].length = 2 := rfl
  generalize [UInt8.ofNat ((k : Int) + 1).toNat, UInt8.ofNat (i + 1).toNat] = hd at *
  repeat' ((conv => whnf); (first | refine And.intro ⟨by omega, by omega⟩ (Exists.intro _ (And.intro (rdI (i := k) (by omega) (by omega)) ?_)) | (apply cx143; refine kl (tx143 (d := s[k]) (i := i)) ?_) | (apply cx144; refine kl (hH) ?_) | (apply cx116; refine kl (tx116 (l := plN s[k] i) (r := row)) ?_) | (apply cx145; refine kl (tx145 (l := plN s[k] i) (r := pkR (plN s[k] i) row)) ?_) | refine Exists.intro _ (Exists.intro _ (And.intro (srcO (α := UInt8) (xs := kyB (plN s[k] i) (pkR (plN s[k] i) row)) rfl rfl) (And.intro ⟨by simp, bgb (by omega), bg (by omega)⟩ (apE (xs := hd) (ys := kyB (plN s[k] i) (pkR (plN s[k] i) row)) ?_)))) | refine k0 ?_ | refine jA fun _ => ?_ | refine jB fun _ => ?_ | refine kC (fun _ => ?_) fun _ => ?_ | (apply cx143; refine kl tx143 ?_) | (apply cx144; refine kl tx144 ?_) | (apply cx116; refine kl tx116 ?_) | (apply cx145; refine kl tx145 ?_) | refine jst ?_ | exact ⟨rfl, rfl⟩ | exact jV | fail))

theorem cx112 {P : Program} {X : FuncId → List Arg → List (Bool × List Cell) → List (Option (List Cell)) → Prop} {a : List Arg} {Q : List (Bool × List Cell) → List (Option (List Cell)) → Prop} (h : ∃ b vals outs, a = b ∧ D P X (.call 112 b vals outs) ∧ Q vals outs) : CallS P X 112 a Q := ⟨h⟩

end Go.Proofs.YtopnaijeicknoaaGreatDoor
