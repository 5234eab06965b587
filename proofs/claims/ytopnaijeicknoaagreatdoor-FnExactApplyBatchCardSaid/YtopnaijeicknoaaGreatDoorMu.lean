/- Functions of the program, each with what it gives back. -/
import Derived.Test.YtopnaijeicknoaaGreatDoorKe
import Derived.Test.YtopnaijeicknoaaGreatDoorChecked
import Derived.IntWalk
import Derived.Test.YtopnaijeicknoaaGreatDoorMt
namespace Go.Proofs.YtopnaijeicknoaaGreatDoor
open Go Go.RowKit Go.IntWalk
open Enc (sz cs)
attribute [local irreducible] IntKind.wrap

attribute [local irreducible] kyO koN plN enB rpN bOf fbN
theorem hx_m {s : List Df} {k : Nat} (h : fbN s = -1) (h2 : k < s.length) : hxN s k (-1) = true := hx_i (j := 0) h h2 (by omega)

set_option maxHeartbeats 2000000 in
set_option maxRecDepth 100000 in
theorem tx78 {s : List Df} {k : Nat} {row : List Vl} (hf : fbN s = -1 := by first | assumption | omega | (simp; done) | (simp; omega)) (hk : k < s.length := by first | assumption | omega | (simp; done) | (simp; omega)) (hs : zSc s ≤ 2000000 := by first | assumption | omega | (simp; done) | (simp; omega)) (hr : row.length ≤ 2000000 ∧ ∀ i (h : i < row.length), row[i].s.size ≤ 2000000 := by first | assumption | omega | (simp; done) | (simp; omega)) : T 78 [aE s, aI (k : Nat), aE row] [vB (lkN s[k] k row)] [none, none, none] := by
  refine w_call md [] Tryz.func78 rfl ?_
  have hs2 := zSc_b hs
  have hz := hs2.2 k hk
  have hr1 := hr.1
  obtain ⟨q1, q2, q3, q4, q5, q6⟩ := zDf_b hz
  have hX : T 127 [aE s, aI (k : Nat), aI (-1)] [vB true] [none, none, none] := by
    have h := tx127 (s := s) (t := k) (i := -1)
    rwa [hx_m hf hk] at h
  have hrl := rpN_len (d := s[k])
  have hel := enB_len (rpN s[k]) row
  repeat' ((conv => whnf); (first | (apply cx127; refine kl (hX) ?_) | refine k0 ?_ | refine jA fun _ => ?_ | refine jB fun _ => ?_ | refine kC (fun _ => ?_) fun _ => ?_ | (apply cx127; refine kl tx127 ?_) | (apply cx128; refine kl tx128 ?_) | (apply cx75; refine kl tx75 ?_) | (apply cx129; refine kl tx129 ?_) | refine jst ?_ | exact ⟨rfl, rfl⟩ | exact jV | fail))
  conv => whnf
  refine loopk (ι := Nat) (fun i => i ≤ s[k].idx.length + 1 ∧ ∀ j, j < i → ¬ 48 < (koN s[k] k ((j : Int) - 1) row).length) (fun i => s[k].idx.length + 1 - i) (0) [0, 1, 2] (fun i => [(7, .v false [i6 ((i : Int) - 1)])]) [none, none, none] ?_
  refine ⟨⟨by omega, by intros; omega⟩, ?_, fun i hi => ?_⟩
  · exact jw []
  · repeat' ((conv => whnf); (first | refine And.intro ⟨by omega, by omega⟩ (Exists.intro _ (And.intro (rdI (i := k) (by omega) (by omega)) ?_)) | refine k0 ?_ | (apply cx127; refine kl tx127 ?_) | (apply cx128; refine kl tx128 ?_) | (apply cx75; refine kl tx75 ?_) | (apply cx129; refine kl tx129 ?_) | refine jst ?_ | exact ⟨rfl, rfl⟩ | exact jV | fail))
    conv => whnf
    refine ⟨fun hlt => ?_, fun hge => ?_⟩
    · have hi2 : i < s[k].idx.length + 1 := by omega
      have hx := hx_i hf hk hi2
      have hkl : (koN s[k] k ((i : Int) - 1) row).length ≤ 416 := by
        cases h : roOk (rpN s[k]) row
        · rw [koN_n h]; exact Nat.zero_le _
        · rw [koN_y h]; exact kyO_len
      repeat' ((conv => whnf); (first | (apply cx128; refine kl (tx128 (s := s) (k := k) (i := (i : Int) - 1) (row := row)) ?_) | refine k0 ?_ | refine jA fun _ => ?_ | refine jB fun _ => ?_ | refine kC (fun _ => ?_) fun _ => ?_ | (apply cx127; refine kl tx127 ?_) | (apply cx128; refine kl tx128 ?_) | (apply cx75; refine kl tx75 ?_) | (apply cx129; refine kl tx129 ?_) | refine jst ?_ | exact ⟨rfl, rfl⟩ | exact jV | fail))
      · refine ⟨vB1 (bOf_y ?_), rfl⟩
        cases h : roOk (rpN s[k]) row
        · rw [koN_n h] at *
          exact absurd ‹((([] : List UInt8).length : Nat) : Int) > 48› (by simp)
        · rw [koN_y h] at *
          exact ⟨h, .inl ⟨i, hi2, by omega⟩⟩
      · refine ⟨⟨i + 1, by omega, all_s hi.2 (by omega)⟩, by simp only; omega, ?_⟩
        exact jw []
    · obtain rfl : i = s[k].idx.length + 1 := by omega
      repeat' ((conv => whnf); (first | refine And.intro ⟨by omega, by omega⟩ (Exists.intro _ (And.intro (rdI (i := k) (by omega) (by omega)) ?_)) | (apply cx75; refine kl (tx75 (d := s[k])) ?_) | (apply cx129; refine kl (tx129 (l := rpN s[k]) (r := row)) ?_) | refine k0 ?_ | refine jA fun _ => ?_ | refine jB fun _ => ?_ | refine kC (fun _ => ?_) fun _ => ?_ | (apply cx127; refine kl tx127 ?_) | (apply cx128; refine kl tx128 ?_) | (apply cx75; refine kl tx75 ?_) | (apply cx129; refine kl tx129 ?_) | refine jst ?_ | exact ⟨rfl, rfl⟩ | exact jV | fail))
      · have hg : 60 < (enB (rpN s[k]) row).length := by omega
        refine ⟨vB1 (bOf_y ⟨?_, .inr hg⟩), rfl⟩
        cases h : roOk (rpN s[k]) row
        · rw [enB_0 h] at hg; exact absurd hg (by simp)
        · rfl
      · refine ⟨vB0 (bOf_n fun q => ?_), rfl⟩
        obtain ⟨q0, ⟨j, hj, q⟩ | q⟩ := q
        · exact hi.2 j hj (by rw [koN_y q0]; exact q)
        · omega

theorem cx78 {P : Program} {X : FuncId → List Arg → List (Bool × List Cell) → List (Option (List Cell)) → Prop} {a : List Arg} {Q : List (Bool × List Cell) → List (Option (List Cell)) → Prop} (h : ∃ b vals outs, a = b ∧ D P X (.call 78 b vals outs) ∧ Q vals outs) : CallS P X 78 a Q := ⟨h⟩

set_option maxHeartbeats 2000000 in
set_option maxRecDepth 100000 in
theorem tx67 {s : List Df} {k : Nat} {row : List Vl} (hf : fbN s = -1 := by first | assumption | omega | (simp; done) | (simp; omega)) (hk : k < s.length := by first | assumption | omega | (simp; done) | (simp; omega)) (hs : zSc s ≤ 2000000 := by first | assumption | omega | (simp; done) | (simp; omega)) (hr : row.length ≤ 2000000 ∧ ∀ i (h : i < row.length), row[i].s.size ≤ 2000000 := by first | assumption | omega | (simp; done) | (simp; omega)) : T 67 [aE s, aI (k : Nat), aE row] [vB (lkN s[k] k row)] [none, none, none] := by
  refine w_call md [] Tryz.func67 rfl ?_
  have hs2 := zSc_b hs
  have hz := hs2.2 k hk
  have hr1 := hr.1
  obtain ⟨q1, q2, q3, q4, q5, q6⟩ := zDf_b hz
  have hX : T 111 [aE s, aI (k : Nat), aI (-1)] [vB true] [none, none, none] := by
    have h := tx111 (s := s) (t := k) (i := -1)
    rwa [hx_m hf hk] at h
  have hrl := rpN_len (d := s[k])
  have hel := enB_len (rpN s[k]) row
  have hR : T 65 [aE (rpN s[k]), aE row] [vB (roOk (rpN s[k]) row)] [none, none] := tx65
  cases hro : roOk (rpN s[k]) row
  · rw [hro] at hR
    repeat' ((conv => whnf); (first | (apply cx111; refine kl (hX) ?_) | refine And.intro ⟨by omega, by omega⟩ (Exists.intro _ (And.intro (rdI (i := k) (by omega) (by omega)) ?_)) | (apply cx66; refine kl (tx66 (d := s[k])) ?_) | (apply cx65; refine kl (hR) ?_) | refine k0 ?_ | refine jA fun _ => ?_ | refine jB fun _ => ?_ | refine kC (fun _ => ?_) fun _ => ?_ | (apply cx111; refine kl tx111 ?_) | (apply cx66; refine kl tx66 ?_) | (apply cx65; refine kl tx65 ?_) | (apply cx112; refine kl tx112 ?_) | (apply cx113; refine kl tx113 ?_) | refine jst ?_ | exact ⟨rfl, rfl⟩ | exact jV | fail))
    exact ⟨vB0 (bOf_n fun q => bft hro q.1), rfl⟩
  rw [hro] at hR
  repeat' ((conv => whnf); (first | (apply cx111; refine kl (hX) ?_) | refine And.intro ⟨by omega, by omega⟩ (Exists.intro _ (And.intro (rdI (i := k) (by omega) (by omega)) ?_)) | (apply cx66; refine kl (tx66 (d := s[k])) ?_) | (apply cx65; refine kl (hR) ?_) | refine k0 ?_ | refine jA fun _ => ?_ | refine jB fun _ => ?_ | refine kC (fun _ => ?_) fun _ => ?_ | (apply cx111; refine kl tx111 ?_) | (apply cx66; refine kl tx66 ?_) | (apply cx65; refine kl tx65 ?_) | (apply cx112; refine kl tx112 ?_) | (apply cx113; refine kl tx113 ?_) | refine jst ?_ | exact ⟨rfl, rfl⟩ | exact jV | fail))
  conv => whnf
  refine loopk (ι := Nat) (fun i => i ≤ s[k].idx.length + 1 ∧ ∀ j, j < i → ¬ 48 < (kyO s[k] k ((j : Int) - 1) row).length) (fun i => s[k].idx.length + 1 - i) (0) [0, 1, 2] (fun i => [(7, .v false [i6 ((i : Int) - 1)])]) [none, none, none] ?_
  refine ⟨⟨by omega, by intros; omega⟩, ?_, fun i hi => ?_⟩
  · exact jw []
  · repeat' ((conv => whnf); (first | refine And.intro ⟨by omega, by omega⟩ (Exists.intro _ (And.intro (rdI (i := k) (by omega) (by omega)) ?_)) | refine k0 ?_ | (apply cx111; refine kl tx111 ?_) | (apply cx66; refine kl tx66 ?_) | (apply cx65; refine kl tx65 ?_) | (apply cx112; refine kl tx112 ?_) | (apply cx113; refine kl tx113 ?_) | refine jst ?_ | exact ⟨rfl, rfl⟩ | exact jV | fail))
    conv => whnf
    refine ⟨fun hlt => ?_, fun hge => ?_⟩
    · have hi2 : i < s[k].idx.length + 1 := by omega
      have hx := hx_i hf hk hi2
      have hkl : (kyO s[k] k ((i : Int) - 1) row).length ≤ 416 := kyO_len
      repeat' ((conv => whnf); (first | (apply cx112; refine kl (tx112 (s := s) (k := k) (i := (i : Int) - 1) (row := row)) ?_) | refine k0 ?_ | refine jA fun _ => ?_ | refine jB fun _ => ?_ | refine kC (fun _ => ?_) fun _ => ?_ | (apply cx111; refine kl tx111 ?_) | (apply cx66; refine kl tx66 ?_) | (apply cx65; refine kl tx65 ?_) | (apply cx112; refine kl tx112 ?_) | (apply cx113; refine kl tx113 ?_) | refine jst ?_ | exact ⟨rfl, rfl⟩ | exact jV | fail))
      · exact ⟨vB1 (bOf_y ⟨hro, .inl ⟨i, hi2, by omega⟩⟩), rfl⟩
      · refine ⟨⟨i + 1, by omega, all_s hi.2 (by omega)⟩, by simp only; omega, ?_⟩
        exact jw []
    · obtain rfl : i = s[k].idx.length + 1 := by omega
      repeat' ((conv => whnf); (first | refine And.intro ⟨by omega, by omega⟩ (Exists.intro _ (And.intro (rdI (i := k) (by omega) (by omega)) ?_)) | (apply cx66; refine kl (tx66 (d := s[k])) ?_) | (apply cx113; refine kl (tx113 (l := rpN s[k]) (r := row)) ?_) | refine k0 ?_ | refine jA fun _ => ?_ | refine jB fun _ => ?_ | refine kC (fun _ => ?_) fun _ => ?_ | (apply cx111; refine kl tx111 ?_) | (apply cx66; refine kl tx66 ?_) | (apply cx65; refine kl tx65 ?_) | (apply cx112; refine kl tx112 ?_) | (apply cx113; refine kl tx113 ?_) | refine jst ?_ | exact ⟨rfl, rfl⟩ | exact jV | fail))
      · exact ⟨vB1 (bOf_y ⟨hro, .inr (by omega)⟩), rfl⟩
      · refine ⟨vB0 (bOf_n fun q => ?_), rfl⟩
        obtain ⟨_, ⟨j, hj, q⟩ | q⟩ := q
        · exact hi.2 j hj q
        · omega

theorem cx67 {P : Program} {X : FuncId → List Arg → List (Bool × List Cell) → List (Option (List Cell)) → Prop} {a : List Arg} {Q : List (Bool × List Cell) → List (Option (List Cell)) → Prop} (h : ∃ b vals outs, a = b ∧ D P X (.call 67 b vals outs) ∧ Q vals outs) : CallS P X 67 a Q := ⟨h⟩

end Go.Proofs.YtopnaijeicknoaaGreatDoor
