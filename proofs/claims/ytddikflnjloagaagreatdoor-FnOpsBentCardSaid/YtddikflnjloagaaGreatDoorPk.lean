/- What the law comes to: functions of the program, each with what it gives back, and the plain facts behind them. -/
import Derived.Test.YtddikflnjloagaaGreatDoorChecked
import Derived.IntWalk
import Derived.Test.YtddikflnjloagaaGreatDoorPj
namespace Go.Proofs.YtddikflnjloagaaGreatDoor

section
open Go Go.RowKit Go.IntWalk

open Enc (sz cs)

attribute [local irreducible] IntKind.wrap

/-! ### Copies of tables -/

attribute [local irreducible] pkR ppN bOf fbN cdN rpN atN tkN moS moI

theorem zTab_b {t : List (List Vl)} (h : zTab t ≤ 2000000) : t.length ≤ 2000000 ∧ ∀ j (hj : j < t.length), t[j].length ≤ 2000000 := by
  have e3 : zTab t = t.length + cnt zRow t := rfl
  refine ⟨by omega, fun j hj => ?_⟩
  have h4 := cnt_mem (c := zRow) (List.getElem_mem hj)
  have e4 : zRow t[j] = t[j].length + cnt zVl t[j] := rfl
  omega

theorem zMdb_t {m : Tbs} (h : zMdb m ≤ 2000000) {k : Nat} (hk : k < m.length) : zTab m[k] ≤ 2000000 := by
  have h3 := cnt_mem (c := zTab) (List.getElem_mem hk)
  have h0 : zMdb m = m.length + cnt zTab m := rfl
  omega

set_option maxHeartbeats 2000000 in
set_option maxRecDepth 100000 in
theorem tx91 {t : List (List Vl)} (ht : zTab t ≤ 2000000 := by first | assumption | omega | (simp; done) | (simp; omega)) : T 91 [aE t] [vE t] [none] := by
  refine w_call md [] Tryz.func91 rfl ?_
  obtain ⟨z1, z2⟩ := zTab_b ht
  repeat' ((conv => whnf); (first | refine k0 ?_ | refine jA fun _ => ?_ | refine jB fun _ => ?_ | refine kC (fun _ => ?_) fun _ => ?_ | refine jst ?_ | exact ⟨rfl, rfl⟩ | exact jV | fail))
  conv => whnf
  refine loopk (ι := Nat) (fun i => i ≤ t.length) (fun i => t.length - i) (0) [0] (fun i => [(3, .v false [.ref 1 0 i 1]), (4, .v false [i6 i])]) [none, some fun i => nE (t.take i)] ?_
  refine ⟨by omega, ?_, fun i hi => ?_⟩
  · exact jw []
  · repeat' ((conv => whnf); (first | refine k0 ?_ | refine jst ?_ | exact ⟨rfl, rfl⟩ | exact jV | fail))
    conv => whnf
    refine ⟨fun hlt => ?_, fun hge => ?_⟩
    · have hi2 : i < t.length := by omega
      have hz := z2 i hi2
      repeat' ((conv => whnf); (first | refine Exists.intro _ (Exists.intro (cs true (_ : List Vl)) (And.intro rfl (And.intro ⟨Nat.le_refl _, bgb (by omega), bg (by omega)⟩ (Exists.intro _ (And.intro ape (Exists.intro _ (And.intro (Nat.zero_add _) ?_))))))) | refine Exists.intro _ (Exists.intro _ (And.intro rfl (And.intro ⟨by simp <;> omega, bgb (by omega), bg (by omega)⟩ (apR (xs := t.take i) ?_)))) | refine k0 ?_ | refine jA fun _ => ?_ | refine jB fun _ => ?_ | refine kC (fun _ => ?_) fun _ => ?_ | refine jst ?_ | exact ⟨rfl, rfl⟩ | exact jV | fail))
      refine ⟨⟨i + 1, by omega⟩, by simp only; omega, (w_inE 5 3 (cs true (t.take i)) t[i] [] t[i].length 3 (tk1 hi2 rfl)).trans ?_⟩
      exact jw []
    · obtain rfl : i = t.length := by omega
      repeat' ((conv => whnf); (first | refine k0 ?_ | refine jA fun _ => ?_ | refine jB fun _ => ?_ | refine kC (fun _ => ?_) fun _ => ?_ | refine jst ?_ | exact ⟨rfl, rfl⟩ | exact jV | fail))
      exact ⟨by rw [List.take_length]; rfl, rfl⟩

theorem cx91 {P : Program} {X : FuncId → List Arg → List (Bool × List Cell) → List (Option (List Cell)) → Prop} {a : List Arg} {Q : List (Bool × List Cell) → List (Option (List Cell)) → Prop} (h : ∃ b vals outs, a = b ∧ D P X (.call 91 b vals outs) ∧ Q vals outs) : CallS P X 91 a Q := ⟨h⟩

set_option maxHeartbeats 2000000 in
set_option maxRecDepth 100000 in
theorem tx51 {m : Tbs} (hm : zMdb m ≤ 2000000 := by first | assumption | omega | (simp; done) | (simp; omega)) : T 51 [.val true [slE false m]] [(true, [slE true m])] [none] := by
  refine w_call md [] Tryz.func51 rfl ?_
  obtain ⟨z1, z2⟩ := zMdb_b hm
  repeat' ((conv => whnf); (first | refine k0 ?_ | refine jA fun _ => ?_ | refine jB fun _ => ?_ | refine kC (fun _ => ?_) fun _ => ?_ | (apply cx91; refine kl tx91 ?_) | refine jst ?_ | exact ⟨rfl, rfl⟩ | exact jV | fail))
  conv => whnf
  refine loopk (ι := Nat) (fun i => i ≤ m.length) (fun i => m.length - i) (0) [1, 2] (fun i => [(3, .v false [.ptr 3 0]), (4, .v false [i6 i])]) [none, none, none, some fun i => some (true, [.ref 4 0 i 1]), some fun i => nE (m.take i)] ?_
  refine ⟨by omega, ?_, fun i hi => ?_⟩
  · exact (w_nilN 3 1 [] []).trans (jw [3])
  · repeat' ((conv => whnf); (first | refine k0 ?_ | (apply cx91; refine kl tx91 ?_) | refine jst ?_ | exact ⟨rfl, rfl⟩ | exact jV | fail))
    conv => whnf
    refine ⟨fun hlt => ?_, fun hge => ?_⟩
    · have hi2 : i < m.length := by omega
      have hz := zMdb_t hm hi2
      repeat' ((conv => whnf); (first | (apply cx91; refine kl (tx91 (t := m[i])) ?_) | refine Exists.intro _ (Exists.intro _ (And.intro rfl (And.intro ⟨by simp <;> omega, bgb (by omega), bg (by omega)⟩ (apR (xs := m.take i) ?_)))) | refine k0 ?_ | refine jA fun _ => ?_ | refine jB fun _ => ?_ | refine kC (fun _ => ?_) fun _ => ?_ | (apply cx91; refine kl tx91 ?_) | refine jst ?_ | exact ⟨rfl, rfl⟩ | exact jV | fail))
      refine ⟨⟨i + 1, by omega⟩, by simp only; omega, (w_inE 181 133 (cs true (m.take i)) m[i] [] m[i].length 1 (tk1 hi2 rfl)).trans ?_⟩
      exact jw [3]
    · obtain rfl : i = m.length := by omega
      repeat' ((conv => whnf); (first | refine k0 ?_ | refine jA fun _ => ?_ | refine jB fun _ => ?_ | refine kC (fun _ => ?_) fun _ => ?_ | (apply cx91; refine kl tx91 ?_) | refine jst ?_ | exact ⟨rfl, rfl⟩ | exact jV | fail))
      exact ⟨by rw [List.take_length]; rfl, rfl⟩

theorem cx51 {P : Program} {X : FuncId → List Arg → List (Bool × List Cell) → List (Option (List Cell)) → Prop} {a : List Arg} {Q : List (Bool × List Cell) → List (Option (List Cell)) → Prop} (h : ∃ b vals outs, a = b ∧ D P X (.call 51 b vals outs) ∧ Q vals outs) : CallS P X 51 a Q := ⟨h⟩

set_option maxHeartbeats 2000000 in
set_option maxRecDepth 100000 in
theorem tx46 {m : Tbs} (hm : zMdb m ≤ 2000000 := by first | assumption | omega | (simp; done) | (simp; omega)) : T 46 [.val true [slE false m]] [(true, [slE true m])] [none] := by
  refine w_call md [[1]] Tryz.func46 rfl ?_
  obtain ⟨z1, z2⟩ := zMdb_b hm
  repeat' ((conv => whnf); (first | refine k0 ?_ | refine jA fun _ => ?_ | refine jB fun _ => ?_ | refine kC (fun _ => ?_) fun _ => ?_ | (apply cx44; refine kl tx44 ?_) | refine jst ?_ | exact ⟨rfl, rfl⟩ | exact jV | fail))
  conv => whnf
  refine loopk (ι := Nat) (fun i => i ≤ m.length) (fun i => m.length - i) (0) [2, 3, 10, 11] (fun i => [(12, .v false [i6 i])]) [none, none, none, some fun i => some (true, [.ref 4 0 i 1]), some fun i => nE (m.take i)] ?_
  refine ⟨by omega, ?_, fun u hi => ?_⟩
  · exact (w_nilN 3 1 [] []).trans (jw [3])
  · repeat' ((conv => whnf); (first | refine k0 ?_ | (apply cx44; refine kl tx44 ?_) | refine jst ?_ | exact ⟨rfl, rfl⟩ | exact jV | fail))
    conv => whnf
    refine ⟨fun hlt => ?_, fun hge => ?_⟩
    · have hi2 : u < m.length := by omega
      obtain ⟨z3, z4⟩ := z2 u hi2
      repeat' ((conv => whnf); (first | refine k0 ?_ | refine jA fun _ => ?_ | refine jB fun _ => ?_ | refine kC (fun _ => ?_) fun _ => ?_ | (apply cx44; refine kl tx44 ?_) | refine jst ?_ | exact ⟨rfl, rfl⟩ | exact jV | fail))
      conv => whnf
      refine loopk (ι := Nat) (fun i => i ≤ m[u].length) (fun i => m[u].length - i) (0) [2, 3, 6, 10, 11, 12, 17, 18] (fun i => [(19, .v false [i6 i])]) [none, none, none, some fun _ => some (true, [.ref 4 0 u 1]), some fun _ => nE (m.take u), none, some fun i => some (true, [.ref 7 0 i 1]), some fun i => nE (m[u].take i)] ?_
      refine ⟨by omega, ?_, fun i hi => ?_⟩
      · exact (w_nilN 6 1 [] []).trans (jw [3, 6])
      · repeat' ((conv => whnf); (first | refine k0 ?_ | (apply cx44; refine kl tx44 ?_) | refine jst ?_ | exact ⟨rfl, rfl⟩ | exact jV | fail))
        conv => whnf
        refine ⟨fun hlt2 => ?_, fun hge2 => ?_⟩
        · have hi3 : i < m[u].length := by omega
          have hz := z4 i hi3
          repeat' ((conv => whnf); (first | (apply cx44; refine kl (tx44 (r := m[u][i])) ?_) | refine Exists.intro _ (Exists.intro _ (And.intro rfl (And.intro ⟨by simp <;> omega, bgb (by omega), bg (by omega)⟩ (apR (xs := m[u].take i) ?_)))) | refine k0 ?_ | refine jA fun _ => ?_ | refine jB fun _ => ?_ | refine kC (fun _ => ?_) fun _ => ?_ | (apply cx44; refine kl tx44 ?_) | refine jst ?_ | exact ⟨rfl, rfl⟩ | exact jV | fail))
          refine ⟨⟨i + 1, by omega⟩, by simp only; omega, (w_inE 88 56 (cs true (m[u].take i)) m[u][i] [] m[u][i].length 3 (tk1 hi3 rfl)).trans ?_⟩
          exact jw [3, 6]
        · obtain rfl : i = m[u].length := by omega
          repeat' ((conv => whnf); (first | refine Exists.intro _ (Exists.intro _ (And.intro rfl (And.intro ⟨by simp <;> omega, bgb (by omega), bg (by omega)⟩ (apR (xs := m.take u) ?_)))) | refine k0 ?_ | refine jA fun _ => ?_ | refine jB fun _ => ?_ | refine kC (fun _ => ?_) fun _ => ?_ | (apply cx44; refine kl tx44 ?_) | refine jst ?_ | exact ⟨rfl, rfl⟩ | exact jV | fail))
          refine ⟨⟨u + 1, by omega⟩, by simp only; omega, (w_inE 9 7 (cs true (m.take u)) (m[u].take m[u].length) [] m[u].length 1 (cs1 := cs true (m.take (u + 1))) (by rw [List.take_length]; exact tk1 hi2 rfl)).trans ?_⟩
          exact jw [3]
    · obtain rfl : u = m.length := by omega
      repeat' ((conv => whnf); (first | refine k0 ?_ | refine jA fun _ => ?_ | refine jB fun _ => ?_ | refine kC (fun _ => ?_) fun _ => ?_ | (apply cx44; refine kl tx44 ?_) | refine jst ?_ | exact ⟨rfl, rfl⟩ | exact jV | fail))
      exact ⟨by rw [List.take_length]; rfl, rfl⟩

theorem cx46 {P : Program} {X : FuncId → List Arg → List (Bool × List Cell) → List (Option (List Cell)) → Prop} {a : List Arg} {Q : List (Bool × List Cell) → List (Option (List Cell)) → Prop} (h : ∃ b vals outs, a = b ∧ D P X (.call 46 b vals outs) ∧ Q vals outs) : CallS P X 46 a Q := ⟨h⟩
end

section
open Go Go.RowKit Go.IntWalk

open Enc (sz cs)

attribute [local irreducible] IntKind.wrap

/-! ### Operations by themselves -/

attribute [local irreducible] pkR ppN bOf fbN cdN rpN atN tkN moS moI

abbrev RvB (r : List Vl) : Prop := r.length ≤ 2000000 ∧ ∀ i (h : i < r.length), r[i].s.size ≤ 2000000

theorem RvB.of {r : List Vl} (h : zRow r ≤ 2000000) : RvB r := by
  have e4 : zRow r = r.length + cnt zVl r := rfl
  refine ⟨by omega, fun i hi => ?_⟩
  have h5 := cnt_mem (c := zVl) (List.getElem_mem hi)
  have e5 : zVl r[i] = r[i].s.size := rfl
  omega

theorem ofT_40 {d : Df} {k : Nat} {o : Opn} (h : o.kind = 4) (h2 : roOk (ppN d) o.row = false) : ofT d k o = 3 := by
  unfold ofT; rw [if_pos h, if_neg (by rw [h2]; decide)]

theorem ofT_41 {d : Df} {k : Nat} {o : Opn} (h : o.kind = 4) (h2 : roOk (ppN d) o.row = true) : ofT d k o = 0 := by
  unfold ofT; rw [if_pos h, if_pos h2]

theorem ofT_n0 {d : Df} {k : Nat} {o : Opn} (h : ¬ o.kind = 4) (h2 : roOk (rpN d) o.row = false) : ofT d k o = 3 := by
  unfold ofT; rw [if_neg h, if_neg (by rw [h2]; decide)]

theorem ofT_n1 {d : Df} {k : Nat} {o : Opn} (h : ¬ o.kind = 4) (h2 : roOk (rpN d) o.row = true) (h3 : lkN d k o.row = true) : ofT d k o = 7 := by
  unfold ofT; rw [if_neg h, if_pos h2, if_pos h3]

theorem ofT_n2 {d : Df} {k : Nat} {o : Opn} (h : ¬ o.kind = 4) (h2 : roOk (rpN d) o.row = true) (h3 : lkN d k o.row = false) : ofT d k o = 0 := by
  unfold ofT; rw [if_neg h, if_pos h2, if_neg (by rw [h3]; decide)]

/-- The code of an operation by itself, its kind apart. -/
noncomputable def ofN (s : List Df) (o : Opn) : Int := if h : 0 ≤ o.t ∧ o.t.toNat < s.length then ofT (s[o.t.toNat]'h.2) o.t.toNat o else 2

theorem ofN_n {s : List Df} {o : Opn} (h : ¬ (0 ≤ o.t ∧ o.t.toNat < s.length)) : ofN s o = 2 := dif_neg h

theorem ofN_y {s : List Df} {kd : Int} {row : List Vl} {k : Nat} (h : k < s.length) : ofN s ⟨kd, k, row⟩ = ofT s[k] k ⟨kd, k, row⟩ := by
  unfold ofN
  rw [dif_pos ⟨by simp, by simpa using h⟩]
  simp only [Int.toNat_natCast]

attribute [local irreducible] ofT ofN

set_option maxHeartbeats 2000000 in
set_option maxRecDepth 100000 in
theorem tx80 {s : List Df} {kd t : Int} {row : List Vl} (hf : fbN s = -1 := by first | assumption | omega | (simp; done) | (simp; omega)) (hs : zSc s ≤ 2000000 := by first | assumption | omega | (simp; done) | (simp; omega)) (hr : RvB row := by first | assumption | omega | (simp; done) | (simp; omega)) : T 80 [aE s, .val true [i6 kd, i6 t, slE false row]] [vI (ofN s ⟨kd, t, row⟩)] [none, none] := by
  refine w_call md [] Tryz.func80 rfl ?_
  obtain ⟨q1, q2⟩ := zSc_b hs
  have hrl := hr.1
  by_cases ht : inB t 0 ((s.length : Int) - 1) = true
  · have hb := inB_iff.1 ht
    obtain ⟨k, rfl⟩ : ∃ k : Nat, t = k := ⟨t.toNat, by omega⟩
    have h2 : k < s.length := by omega
    have hd := q2 k h2
    have hpl := ppN_len (d := s[k])
    have hrl2 := rpN_len (d := s[k])
    have hI : T 45 [aI (k : Nat), aI 0, aI ((s.length : Int) - 1)] [vB true] [none, none, none] := by
      have h := tx45 (n := k) (l := 0) (h := (s.length : Int) - 1)
      rwa [ht] at h
    rw [ofN_y h2]
    by_cases h4 : kd = 4
    · subst h4
      have hR : T 85 [aE (ppN s[k]), aE row] [vB (roOk (ppN s[k]) row)] [none, none] := tx85
      cases e : roOk (ppN s[k]) row
      · rw [e] at hR
        rw [ofT_40 rfl e]
        repeat' ((conv => whnf); (first | (apply cx45; refine kl (hI) ?_) | (apply cx85; refine kl (hR) ?_) | refine And.intro ⟨by omega, by omega⟩ (Exists.intro _ (And.intro (rdI (i := k) (by omega) (by omega)) ?_)) | (apply cx19; refine kl (tx19 (d := s[k])) ?_) | refine k0 ?_ | refine jA fun _ => ?_ | refine jB fun _ => ?_ | refine kC (fun _ => ?_) fun _ => ?_ | (apply cx45; refine kl tx45 ?_) | (apply cx19; refine kl tx19 ?_) | (apply cx85; refine kl tx85 ?_) | (apply cx50; refine kl tx50 ?_) | (apply cx14; refine kl tx14 ?_) | refine jst ?_ | exact ⟨rfl, rfl⟩ | exact jV | fail))
      · rw [e] at hR
        rw [ofT_41 rfl e]
        repeat' ((conv => whnf); (first | (apply cx45; refine kl (hI) ?_) | (apply cx85; refine kl (hR) ?_) | refine And.intro ⟨by omega, by omega⟩ (Exists.intro _ (And.intro (rdI (i := k) (by omega) (by omega)) ?_)) | (apply cx19; refine kl (tx19 (d := s[k])) ?_) | refine k0 ?_ | refine jA fun _ => ?_ | refine jB fun _ => ?_ | refine kC (fun _ => ?_) fun _ => ?_ | (apply cx45; refine kl tx45 ?_) | (apply cx19; refine kl tx19 ?_) | (apply cx85; refine kl tx85 ?_) | (apply cx50; refine kl tx50 ?_) | (apply cx14; refine kl tx14 ?_) | refine jst ?_ | exact ⟨rfl, rfl⟩ | exact jV | fail))
    · have hR : T 85 [aE (rpN s[k]), aE row] [vB (roOk (rpN s[k]) row)] [none, none] := tx85
      have hL : T 14 [aE s, aI (k : Nat), aE row] [vB (lkN s[k] k row)] [none, none, none] := tx14 hf h2
      cases e : roOk (rpN s[k]) row
      · rw [e] at hR
        rw [ofT_n0 h4 e]
        repeat' ((conv => whnf); (first | (apply cx45; refine kl (hI) ?_) | (apply cx85; refine kl (hR) ?_) | refine And.intro ⟨by omega, by omega⟩ (Exists.intro _ (And.intro (rdI (i := k) (by omega) (by omega)) ?_)) | (apply cx50; refine kl (tx50 (d := s[k])) ?_) | refine k0 ?_ | refine jA fun _ => ?_ | refine jB fun _ => ?_ | refine kC (fun _ => ?_) fun _ => ?_ | (apply cx45; refine kl tx45 ?_) | (apply cx19; refine kl tx19 ?_) | (apply cx85; refine kl tx85 ?_) | (apply cx50; refine kl tx50 ?_) | (apply cx14; refine kl tx14 ?_) | refine jst ?_ | exact ⟨rfl, rfl⟩ | exact jV | fail))
      · rw [e] at hR
        cases e2 : lkN s[k] k row
        · rw [e2] at hL
          rw [ofT_n2 h4 e e2]
          repeat' ((conv => whnf); (first | (apply cx45; refine kl (hI) ?_) | (apply cx85; refine kl (hR) ?_) | refine And.intro ⟨by omega, by omega⟩ (Exists.intro _ (And.intro (rdI (i := k) (by omega) (by omega)) ?_)) | (apply cx50; refine kl (tx50 (d := s[k])) ?_) | (apply cx14; refine kl (hL) ?_) | refine k0 ?_ | refine jA fun _ => ?_ | refine jB fun _ => ?_ | refine kC (fun _ => ?_) fun _ => ?_ | (apply cx45; refine kl tx45 ?_) | (apply cx19; refine kl tx19 ?_) | (apply cx85; refine kl tx85 ?_) | (apply cx50; refine kl tx50 ?_) | (apply cx14; refine kl tx14 ?_) | refine jst ?_ | exact ⟨rfl, rfl⟩ | exact jV | fail))
        · rw [e2] at hL
          rw [ofT_n1 h4 e e2]
          repeat' ((conv => whnf); (first | (apply cx45; refine kl (hI) ?_) | (apply cx85; refine kl (hR) ?_) | refine And.intro ⟨by omega, by omega⟩ (Exists.intro _ (And.intro (rdI (i := k) (by omega) (by omega)) ?_)) | (apply cx50; refine kl (tx50 (d := s[k])) ?_) | (apply cx14; refine kl (hL) ?_) | refine k0 ?_ | refine jA fun _ => ?_ | refine jB fun _ => ?_ | refine kC (fun _ => ?_) fun _ => ?_ | (apply cx45; refine kl tx45 ?_) | (apply cx19; refine kl tx19 ?_) | (apply cx85; refine kl tx85 ?_) | (apply cx50; refine kl tx50 ?_) | (apply cx14; refine kl tx14 ?_) | refine jst ?_ | exact ⟨rfl, rfl⟩ | exact jV | fail))
  · have hI : T 45 [aI t, aI 0, aI ((s.length : Int) - 1)] [vB false] [none, none, none] := by
      have h := tx45 (n := t) (l := 0) (h := (s.length : Int) - 1)
      rwa [bNt ht] at h
    rw [ofN_n (o := ⟨kd, t, row⟩) fun q => ht (inB_iff.2 (by simp only at q; omega))]
    repeat' ((conv => whnf); (first | (apply cx45; refine kl (hI) ?_) | refine k0 ?_ | refine jA fun _ => ?_ | refine jB fun _ => ?_ | refine kC (fun _ => ?_) fun _ => ?_ | (apply cx45; refine kl tx45 ?_) | (apply cx19; refine kl tx19 ?_) | (apply cx85; refine kl tx85 ?_) | (apply cx50; refine kl tx50 ?_) | (apply cx14; refine kl tx14 ?_) | refine jst ?_ | exact ⟨rfl, rfl⟩ | exact jV | fail))

theorem cx80 {P : Program} {X : FuncId → List Arg → List (Bool × List Cell) → List (Option (List Cell)) → Prop} {a : List Arg} {Q : List (Bool × List Cell) → List (Option (List Cell)) → Prop} (h : ∃ b vals outs, a = b ∧ D P X (.call 80 b vals outs) ∧ Q vals outs) : CallS P X 80 a Q := ⟨h⟩

set_option maxHeartbeats 2000000 in
set_option maxRecDepth 100000 in
theorem tx52 {s : List Df} {kd t : Int} {row : List Vl} (hf : fbN s = -1 := by first | assumption | omega | (simp; done) | (simp; omega)) (hs : zSc s ≤ 2000000 := by first | assumption | omega | (simp; done) | (simp; omega)) (hr : RvB row := by first | assumption | omega | (simp; done) | (simp; omega)) : T 52 [aE s, .val true [i6 kd, i6 t, slE false row]] [vI (if inB kd 1 4 = true then ofN s ⟨kd, t, row⟩ else 1)] [none, none] := by
  refine w_call md [] Tryz.func52 rfl ?_
  obtain ⟨q1, q2⟩ := zSc_b hs
  have hrl := hr.1
  by_cases hk : inB kd 1 4 = true
  · simp only [hk, if_true]
    have hK : T 39 [aI kd, aI 1, aI 4] [vB true] [none, none, none] := by
      have h := tx39 (n := kd) (l := 1) (h := 4)
      rwa [hk] at h
    by_cases ht : inB t 0 ((s.length : Int) - 1) = true
    · have hb := inB_iff.1 ht
      obtain ⟨k, rfl⟩ : ∃ k : Nat, t = k := ⟨t.toNat, by omega⟩
      have h2 : k < s.length := by omega
      have hd := q2 k h2
      have hpl := ppN_len (d := s[k])
      have hrl2 := rpN_len (d := s[k])
      have hI : T 39 [aI (k : Nat), aI 0, aI ((s.length : Int) - 1)] [vB true] [none, none, none] := by
        have h := tx39 (n := k) (l := 0) (h := (s.length : Int) - 1)
        rwa [ht] at h
      rw [ofN_y h2]
      by_cases h4 : kd = 4
      · subst h4
        have hR : T 92 [aE (ppN s[k]), aE row] [vB (roOk (ppN s[k]) row)] [none, none] := tx92
        cases e : roOk (ppN s[k]) row
        · rw [e] at hR
          rw [ofT_40 rfl e]
          repeat' ((conv => whnf); (first | (apply cx39; refine kl (hK) ?_) | (apply cx39; refine kl (hI) ?_) | (apply cx92; refine kl (hR) ?_) | refine And.intro ⟨by omega, by omega⟩ (Exists.intro _ (And.intro (rdI (i := k) (by omega) (by omega)) ?_)) | (apply cx11; refine kl (tx11 (d := s[k])) ?_) | refine k0 ?_ | refine jA fun _ => ?_ | refine jB fun _ => ?_ | refine kC (fun _ => ?_) fun _ => ?_ | (apply cx39; refine kl tx39 ?_) | (apply cx11; refine kl tx11 ?_) | (apply cx92; refine kl tx92 ?_) | (apply cx93; refine kl tx93 ?_) | (apply cx94; refine kl tx94 ?_) | refine jst ?_ | exact ⟨rfl, rfl⟩ | exact jV | fail))
        · rw [e] at hR
          rw [ofT_41 rfl e]
          repeat' ((conv => whnf); (first | (apply cx39; refine kl (hK) ?_) | (apply cx39; refine kl (hI) ?_) | (apply cx92; refine kl (hR) ?_) | refine And.intro ⟨by omega, by omega⟩ (Exists.intro _ (And.intro (rdI (i := k) (by omega) (by omega)) ?_)) | (apply cx11; refine kl (tx11 (d := s[k])) ?_) | refine k0 ?_ | refine jA fun _ => ?_ | refine jB fun _ => ?_ | refine kC (fun _ => ?_) fun _ => ?_ | (apply cx39; refine kl tx39 ?_) | (apply cx11; refine kl tx11 ?_) | (apply cx92; refine kl tx92 ?_) | (apply cx93; refine kl tx93 ?_) | (apply cx94; refine kl tx94 ?_) | refine jst ?_ | exact ⟨rfl, rfl⟩ | exact jV | fail))
      · have hR : T 92 [aE (rpN s[k]), aE row] [vB (roOk (rpN s[k]) row)] [none, none] := tx92
        have hL : T 94 [aE s, aI (k : Nat), aE row] [vB (lkN s[k] k row)] [none, none, none] := tx94 hf h2
        cases e : roOk (rpN s[k]) row
        · rw [e] at hR
          rw [ofT_n0 h4 e]
          repeat' ((conv => whnf); (first | (apply cx39; refine kl (hK) ?_) | (apply cx39; refine kl (hI) ?_) | (apply cx92; refine kl (hR) ?_) | refine And.intro ⟨by omega, by omega⟩ (Exists.intro _ (And.intro (rdI (i := k) (by omega) (by omega)) ?_)) | (apply cx93; refine kl (tx93 (d := s[k])) ?_) | refine k0 ?_ | refine jA fun _ => ?_ | refine jB fun _ => ?_ | refine kC (fun _ => ?_) fun _ => ?_ | (apply cx39; refine kl tx39 ?_) | (apply cx11; refine kl tx11 ?_) | (apply cx92; refine kl tx92 ?_) | (apply cx93; refine kl tx93 ?_) | (apply cx94; refine kl tx94 ?_) | refine jst ?_ | exact ⟨rfl, rfl⟩ | exact jV | fail))
        · rw [e] at hR
          cases e2 : lkN s[k] k row
          · rw [e2] at hL
            rw [ofT_n2 h4 e e2]
            repeat' ((conv => whnf); (first | (apply cx39; refine kl (hK) ?_) | (apply cx39; refine kl (hI) ?_) | (apply cx92; refine kl (hR) ?_) | refine And.intro ⟨by omega, by omega⟩ (Exists.intro _ (And.intro (rdI (i := k) (by omega) (by omega)) ?_)) | (apply cx93; refine kl (tx93 (d := s[k])) ?_) | (apply cx94; refine kl (hL) ?_) | refine k0 ?_ | refine jA fun _ => ?_ | refine jB fun _ => ?_ | refine kC (fun _ => ?_) fun _ => ?_ | (apply cx39; refine kl tx39 ?_) | (apply cx11; refine kl tx11 ?_) | (apply cx92; refine kl tx92 ?_) | (apply cx93; refine kl tx93 ?_) | (apply cx94; refine kl tx94 ?_) | refine jst ?_ | exact ⟨rfl, rfl⟩ | exact jV | fail))
          · rw [e2] at hL
            rw [ofT_n1 h4 e e2]
            repeat' ((conv => whnf); (first | (apply cx39; refine kl (hK) ?_) | (apply cx39; refine kl (hI) ?_) | (apply cx92; refine kl (hR) ?_) | refine And.intro ⟨by omega, by omega⟩ (Exists.intro _ (And.intro (rdI (i := k) (by omega) (by omega)) ?_)) | (apply cx93; refine kl (tx93 (d := s[k])) ?_) | (apply cx94; refine kl (hL) ?_) | refine k0 ?_ | refine jA fun _ => ?_ | refine jB fun _ => ?_ | refine kC (fun _ => ?_) fun _ => ?_ | (apply cx39; refine kl tx39 ?_) | (apply cx11; refine kl tx11 ?_) | (apply cx92; refine kl tx92 ?_) | (apply cx93; refine kl tx93 ?_) | (apply cx94; refine kl tx94 ?_) | refine jst ?_ | exact ⟨rfl, rfl⟩ | exact jV | fail))
    · have hI : T 39 [aI t, aI 0, aI ((s.length : Int) - 1)] [vB false] [none, none, none] := by
        have h := tx39 (n := t) (l := 0) (h := (s.length : Int) - 1)
        rwa [bNt ht] at h
      rw [ofN_n (o := ⟨kd, t, row⟩) fun q => ht (inB_iff.2 (by simp only at q; omega))]
      repeat' ((conv => whnf); (first | (apply cx39; refine kl (hK) ?_) | (apply cx39; refine kl (hI) ?_) | refine k0 ?_ | refine jA fun _ => ?_ | refine jB fun _ => ?_ | refine kC (fun _ => ?_) fun _ => ?_ | (apply cx39; refine kl tx39 ?_) | (apply cx11; refine kl tx11 ?_) | (apply cx92; refine kl tx92 ?_) | (apply cx93; refine kl tx93 ?_) | (apply cx94; refine kl tx94 ?_) | refine jst ?_ | exact ⟨rfl, rfl⟩ | exact jV | fail))
  · have hK : T 39 [aI kd, aI 1, aI 4] [vB false] [none, none, none] := by
      have h := tx39 (n := kd) (l := 1) (h := 4)
      rwa [bNt hk] at h
    simp only [bNt hk, Bool.false_eq_true, if_false]
    repeat' ((conv => whnf); (first | (apply cx39; refine kl (hK) ?_) | refine k0 ?_ | refine jA fun _ => ?_ | refine jB fun _ => ?_ | refine kC (fun _ => ?_) fun _ => ?_ | (apply cx39; refine kl tx39 ?_) | (apply cx11; refine kl tx11 ?_) | (apply cx92; refine kl tx92 ?_) | (apply cx93; refine kl tx93 ?_) | (apply cx94; refine kl tx94 ?_) | refine jst ?_ | exact ⟨rfl, rfl⟩ | exact jV | fail))

theorem cx52 {P : Program} {X : FuncId → List Arg → List (Bool × List Cell) → List (Option (List Cell)) → Prop} {a : List Arg} {Q : List (Bool × List Cell) → List (Option (List Cell)) → Prop} (h : ∃ b vals outs, a = b ∧ D P X (.call 52 b vals outs) ∧ Q vals outs) : CallS P X 52 a Q := ⟨h⟩

set_option maxHeartbeats 2000000 in
set_option maxRecDepth 100000 in
theorem tx82 {kd t : Int} {row : List Vl} {b : Bool} : T 82 [.val true [i6 kd, i6 t, slE false row], aB b] [vI (thN ⟨kd, t, row⟩ b)] [none, none] := by
  refine w_call md [] Tryz.func82 rfl ?_
  unfold thN
  simp only
  by_cases h1 : kd = 1
  · subst h1
    cases b
    · repeat' ((conv => whnf); (first | refine k0 ?_ | refine jA fun _ => ?_ | refine jB fun _ => ?_ | refine kC (fun _ => ?_) fun _ => ?_ | refine jst ?_ | exact ⟨rfl, rfl⟩ | exact jV | fail))
    · repeat' ((conv => whnf); (first | refine k0 ?_ | refine jA fun _ => ?_ | refine jB fun _ => ?_ | refine kC (fun _ => ?_) fun _ => ?_ | refine jst ?_ | exact ⟨rfl, rfl⟩ | exact jV | fail))
  · by_cases h3 : kd = 3
    · subst h3
      cases b
      · repeat' ((conv => whnf); (first | refine k0 ?_ | refine jA fun _ => ?_ | refine jB fun _ => ?_ | refine kC (fun _ => ?_) fun _ => ?_ | refine jst ?_ | exact ⟨rfl, rfl⟩ | exact jV | fail))
      · repeat' ((conv => whnf); (first | refine k0 ?_ | refine jA fun _ => ?_ | refine jB fun _ => ?_ | refine kC (fun _ => ?_) fun _ => ?_ | refine jst ?_ | exact ⟨rfl, rfl⟩ | exact jV | fail))
    · by_cases h4 : kd = 4
      · subst h4
        cases b
        · repeat' ((conv => whnf); (first | refine k0 ?_ | refine jA fun _ => ?_ | refine jB fun _ => ?_ | refine kC (fun _ => ?_) fun _ => ?_ | refine jst ?_ | exact ⟨rfl, rfl⟩ | exact jV | fail))
        · repeat' ((conv => whnf); (first | refine k0 ?_ | refine jA fun _ => ?_ | refine jB fun _ => ?_ | refine kC (fun _ => ?_) fun _ => ?_ | refine jst ?_ | exact ⟨rfl, rfl⟩ | exact jV | fail))
      · rw [if_neg (fun q => h1 q.1), if_neg (fun q => by rcases q.1 with q | q; exact h3 q; exact h4 q)]
        repeat' ((conv => whnf); (first | refine k0 ?_ | refine jA fun _ => ?_ | refine jB fun _ => ?_ | refine kC (fun _ => ?_) fun _ => ?_ | refine jst ?_ | exact ⟨rfl, rfl⟩ | exact jV | fail))

theorem cx82 {P : Program} {X : FuncId → List Arg → List (Bool × List Cell) → List (Option (List Cell)) → Prop} {a : List Arg} {Q : List (Bool × List Cell) → List (Option (List Cell)) → Prop} (h : ∃ b vals outs, a = b ∧ D P X (.call 82 b vals outs) ∧ Q vals outs) : CallS P X 82 a Q := ⟨h⟩

set_option maxHeartbeats 2000000 in
set_option maxRecDepth 100000 in
theorem tx55 {kd t : Int} {row : List Vl} {b : Bool} : T 55 [.val true [i6 kd, i6 t, slE false row], aB b] [vI (thN ⟨kd, t, row⟩ b)] [none, none] := by
  refine w_call md [] Tryz.func55 rfl ?_
  unfold thN
  simp only
  by_cases h1 : kd = 1
  · subst h1
    cases b
    · repeat' ((conv => whnf); (first | refine k0 ?_ | refine jA fun _ => ?_ | refine jB fun _ => ?_ | refine kC (fun _ => ?_) fun _ => ?_ | refine jst ?_ | exact ⟨rfl, rfl⟩ | exact jV | fail))
    · repeat' ((conv => whnf); (first | refine k0 ?_ | refine jA fun _ => ?_ | refine jB fun _ => ?_ | refine kC (fun _ => ?_) fun _ => ?_ | refine jst ?_ | exact ⟨rfl, rfl⟩ | exact jV | fail))
  · by_cases h3 : kd = 3
    · subst h3
      cases b
      · repeat' ((conv => whnf); (first | refine k0 ?_ | refine jA fun _ => ?_ | refine jB fun _ => ?_ | refine kC (fun _ => ?_) fun _ => ?_ | refine jst ?_ | exact ⟨rfl, rfl⟩ | exact jV | fail))
      · repeat' ((conv => whnf); (first | refine k0 ?_ | refine jA fun _ => ?_ | refine jB fun _ => ?_ | refine kC (fun _ => ?_) fun _ => ?_ | refine jst ?_ | exact ⟨rfl, rfl⟩ | exact jV | fail))
    · by_cases h4 : kd = 4
      · subst h4
        cases b
        · repeat' ((conv => whnf); (first | refine k0 ?_ | refine jA fun _ => ?_ | refine jB fun _ => ?_ | refine kC (fun _ => ?_) fun _ => ?_ | refine jst ?_ | exact ⟨rfl, rfl⟩ | exact jV | fail))
        · repeat' ((conv => whnf); (first | refine k0 ?_ | refine jA fun _ => ?_ | refine jB fun _ => ?_ | refine kC (fun _ => ?_) fun _ => ?_ | refine jst ?_ | exact ⟨rfl, rfl⟩ | exact jV | fail))
      · rw [if_neg (fun q => h1 q.1), if_neg (fun q => by rcases q.1 with q | q; exact h3 q; exact h4 q)]
        repeat' ((conv => whnf); (first | refine k0 ?_ | refine jA fun _ => ?_ | refine jB fun _ => ?_ | refine kC (fun _ => ?_) fun _ => ?_ | refine jst ?_ | exact ⟨rfl, rfl⟩ | exact jV | fail))

theorem cx55 {P : Program} {X : FuncId → List Arg → List (Bool × List Cell) → List (Option (List Cell)) → Prop} {a : List Arg} {Q : List (Bool × List Cell) → List (Option (List Cell)) → Prop} (h : ∃ b vals outs, a = b ∧ D P X (.call 55 b vals outs) ∧ Q vals outs) : CallS P X 55 a Q := ⟨h⟩

set_option maxHeartbeats 2000000 in
set_option maxRecDepth 100000 in
theorem tx81 {s : List Df} {kd : Int} {k : Nat} {row : List Vl} (h2 : k < s.length := by first | assumption | omega | (simp; done) | (simp; omega)) (hs : zSc s ≤ 2000000 := by first | assumption | omega | (simp; done) | (simp; omega)) (hr : row.length ≤ 2000000 := by first | assumption | omega | (simp; done) | (simp; omega)) : T 81 [aE s, .val true [i6 kd, i6 k, slE false row]] [(false, [slE false (kyD s[k] ⟨kd, k, row⟩)])] [none, none] := by
  refine w_call md [[3]] Tryz.func81 rfl ?_
  obtain ⟨q1, q2⟩ := zSc_b hs
  have hd := q2 k h2
  have hpl := ppN_len (d := s[k])
  by_cases h4 : kd = 4
  · subst h4
    rw [kyD_4 rfl]
    repeat' ((conv => whnf); (first | refine k0 ?_ | refine jA fun _ => ?_ | refine jB fun _ => ?_ | refine kC (fun _ => ?_) fun _ => ?_ | (apply cx19; refine kl tx19 ?_) | (apply cx18; refine kl tx18 ?_) | refine jst ?_ | exact ⟨rfl, rfl⟩ | exact jV | fail))
  · rw [kyD_n (o := ⟨kd, k, row⟩) h4]
    repeat' ((conv => whnf); (first | refine And.intro ⟨by omega, by omega⟩ (Exists.intro _ (And.intro (rdI (i := k) (by omega) (by omega)) ?_)) | (apply cx19; refine kl (tx19 (d := s[k])) ?_) | (apply cx18; refine kl (tx18 (l := ppN s[k]) (r := row)) ?_) | refine bstep (w_frz 131 (pkR (ppN s[k]) row)) ?_ | refine ⟨snc, cs false (pkR (ppN s[k]) row), cs_whole, ?_⟩ | refine k0 ?_ | refine jA fun _ => ?_ | refine jB fun _ => ?_ | refine kC (fun _ => ?_) fun _ => ?_ | (apply cx19; refine kl tx19 ?_) | (apply cx18; refine kl tx18 ?_) | refine jst ?_ | exact ⟨rfl, rfl⟩ | exact jV | fail))

theorem cx81 {P : Program} {X : FuncId → List Arg → List (Bool × List Cell) → List (Option (List Cell)) → Prop} {a : List Arg} {Q : List (Bool × List Cell) → List (Option (List Cell)) → Prop} (h : ∃ b vals outs, a = b ∧ D P X (.call 81 b vals outs) ∧ Q vals outs) : CallS P X 81 a Q := ⟨h⟩

set_option maxHeartbeats 2000000 in
set_option maxRecDepth 100000 in
theorem tx54 {s : List Df} {kd : Int} {k : Nat} {row : List Vl} (h2 : k < s.length := by first | assumption | omega | (simp; done) | (simp; omega)) (hs : zSc s ≤ 2000000 := by first | assumption | omega | (simp; done) | (simp; omega)) (hr : row.length ≤ 2000000 := by first | assumption | omega | (simp; done) | (simp; omega)) : T 54 [aE s, .val true [i6 kd, i6 k, slE false row]] [(false, [slE false (kyD s[k] ⟨kd, k, row⟩)])] [none, none] := by
  refine w_call md [[3]] Tryz.func54 rfl ?_
  obtain ⟨q1, q2⟩ := zSc_b hs
  have hd := q2 k h2
  have hpl := ppN_len (d := s[k])
  by_cases h4 : kd = 4
  · subst h4
    rw [kyD_4 rfl]
    repeat' ((conv => whnf); (first | refine k0 ?_ | refine jA fun _ => ?_ | refine jB fun _ => ?_ | refine kC (fun _ => ?_) fun _ => ?_ | (apply cx74; refine kl tx74 ?_) | refine jst ?_ | exact ⟨rfl, rfl⟩ | exact jV | fail))
  · rw [kyD_n (o := ⟨kd, k, row⟩) h4]
    repeat' ((conv => whnf); (first | refine And.intro ⟨by omega, by omega⟩ (Exists.intro _ (And.intro (rdI (i := k) (by omega) (by omega)) ?_)) | (apply cx74; refine kl (tx74 (d := s[k]) (r := row)) ?_) | refine bstep (w_frz 115 (pkR (ppN s[k]) row)) ?_ | refine ⟨snc, cs false (pkR (ppN s[k]) row), cs_whole, ?_⟩ | refine k0 ?_ | refine jA fun _ => ?_ | refine jB fun _ => ?_ | refine kC (fun _ => ?_) fun _ => ?_ | (apply cx74; refine kl tx74 ?_) | refine jst ?_ | exact ⟨rfl, rfl⟩ | exact jV | fail))

theorem cx54 {P : Program} {X : FuncId → List Arg → List (Bool × List Cell) → List (Option (List Cell)) → Prop} {a : List Arg} {Q : List (Bool × List Cell) → List (Option (List Cell)) → Prop} (h : ∃ b vals outs, a = b ∧ D P X (.call 54 b vals outs) ∧ Q vals outs) : CallS P X 54 a Q := ⟨h⟩
end

section
open Go Go.RowKit Go.IntWalk

open Enc (sz cs)

attribute [local irreducible] IntKind.wrap

/-! ### What an operation on right tables does -/

theorem atN_mem {plan : List Prt} {rows : List (List Vl)} {key : List Vl} {j : Nat} (h : atN plan rows key = j) : ∃ h : j < rows.length, pkR plan rows[j] = key := by
  have key2 : fstI rows.length (fun i => ∃ h : i < rows.length, pkR plan rows[i] = key) = -1 ∨ ∃ i, (∃ h : i < rows.length, pkR plan rows[i] = key) ∧ fstI rows.length (fun i => ∃ h : i < rows.length, pkR plan rows[i] = key) = (i : Int) := by
    unfold fstI
    split
    · rename_i hx
      exact .inr ⟨_, (Classical.choose_spec hx).2.1, rfl⟩
    · exact .inl rfl
  unfold atN at h
  rcases key2 with e | ⟨i, hi, e⟩
  · rw [e] at h; omega
  · rw [e] at h
    obtain rfl : i = j := by omega
    exact hi

theorem atN_nn {plan : List Prt} {rows : List (List Vl)} {key : List Vl} (h : ¬ 0 ≤ atN plan rows key) : atN plan rows key = -1 := by
  have key2 : fstI rows.length (fun i => ∃ h : i < rows.length, pkR plan rows[i] = key) = -1 ∨ ∃ i : Nat, fstI rows.length (fun i => ∃ h : i < rows.length, pkR plan rows[i] = key) = (i : Int) := by
    unfold fstI
    split
    · exact .inr ⟨_, rfl⟩
    · exact .inl rfl
  unfold atN at *
  rcases key2 with e | ⟨i, e⟩
  · exact e
  · rw [e] at h; omega

theorem key_inj {d : Df} {k : Nat} {rows : List (List Vl)} (h : ∀ j (hj : j < rows.length), RwI d k rows j hj) {i j : Nat} (hi : i < rows.length) (hj : j < rows.length) (e : pkR (ppN d) rows[i] = pkR (ppN d) rows[j]) : i = j := by
  rcases Nat.lt_trichotomy i j with q | q | q
  · obtain ⟨n, rfl⟩ : ∃ n, j = i + n + 1 := ⟨j - i - 1, by omega⟩
    exact absurd e (lk_ne (key_lt h n i hi hj))
  · exact q
  · obtain ⟨n, rfl⟩ : ∃ n, i = j + n + 1 := ⟨i - j - 1, by omega⟩
    exact absurd e.symm (lk_ne (key_lt h n j hj hi))

theorem at_iff {d : Df} {k : Nat} {rows : List (List Vl)} {key : List Vl} (h : ∀ j (hj : j < rows.length), RwI d k rows j hj) {i : Nat} (hi : i < rows.length) : ((i : Nat) : Int) = atN (ppN d) rows key ↔ pkR (ppN d) rows[i] = key := by
  constructor
  · intro q
    obtain ⟨_, e⟩ := atN_mem q.symm
    exact e
  · intro q
    exact (fstI_at hi ⟨hi, q⟩ (fun j hj p => by
      obtain ⟨hj2, p⟩ := p
      have := key_inj h hi hj2 (q.trans p.symm)
      omega)).symm

theorem tk_y {d : Df} {rows : List (List Vl)} {row : List Vl} {j : Nat} (hj : j < rows.length) (h : pkR (ppN d) rows[j] ≠ pkR (ppN d) row) (h2 : clN2 d rows[j] row = true) : tkN d rows row = true := by
  obtain ⟨i, hi, q⟩ := bOf_t h2
  exact bOf_y ⟨i, hi, q.uni, j, hj, q.by_, h⟩

theorem tk_n {d : Df} {rows : List (List Vl)} {row : List Vl} (h : ∀ j (hj : j < rows.length), pkR (ppN d) rows[j] ≠ pkR (ppN d) row → clN2 d rows[j] row = false) : tkN d rows row = false := bOf_n fun q => by
  obtain ⟨i, hi, q⟩ := q
  obtain ⟨j, hj, p⟩ := q.ex
  exact bOf_f (h j hj p.ne) ⟨i, hi, q.uni, p.by_⟩

/-- The row of a key is taken out. -/
theorem sgI_del {l : List Prt} {key row : List Vl} {rows : List (List Vl)} {j : Nat} (hj : j < rows.length) (h : pkR l rows[j] = key) (hn : ∀ i (hi : i < rows.length), pkR l rows[i] = key → i = j) : rows.foldl (sgI l key row) ([], true) = (rows.take j ++ rows.drop (j + 1), true) := by
  have e : rows = rows.take j ++ (rows[j] :: rows.drop (j + 1)) := by rw [← List.drop_eq_getElem_cons hj, List.take_append_drop]
  have h1 : (rows.take j).foldl (sgI l key row) ([], true) = ([] ++ rows.take j, true) := sgI_t fun r hr q => by
    obtain ⟨i, hi, rfl⟩ := List.getElem_of_mem hr
    simp only [List.length_take] at hi
    rw [List.getElem_take] at q
    have := hn i (by omega) q
    omega
  have h2 : (rows.drop (j + 1)).foldl (sgI l key row) (rows.take j, true) = (rows.take j ++ rows.drop (j + 1), true) := sgI_t fun r hr q => by
    obtain ⟨i, hi, rfl⟩ := List.getElem_of_mem hr
    simp only [List.length_drop] at hi
    rw [List.getElem_drop] at q
    have := hn (j + 1 + i) (by omega) q
    omega
  have h3 : sgI l key row (rows.take j, true) rows[j] = (rows.take j, true) := by simp only [sgI, if_pos h]
  calc rows.foldl (sgI l key row) ([], true) = (rows.take j ++ (rows[j] :: rows.drop (j + 1))).foldl (sgI l key row) ([], true) := by rw [← e]
    _ = _ := by rw [List.foldl_append, h1, List.nil_append, List.foldl_cons, h3, h2]

noncomputable abbrev sgT (l : List Prt) (key row : List Vl) (b : Bool) (rows : List (List Vl)) (i : Nat) : List (List Vl) × Bool := (rows.take i).foldl (sgI l key row) ([], b)

theorem sgT_suc {l : List Prt} {key row : List Vl} {b : Bool} {rows : List (List Vl)} {i : Nat} {x y : List (List Vl) × Bool} (h : i < rows.length) (e : sgT l key row b rows i = x) (e2 : sgI l key row x rows[i] = y) : sgT l key row b rows (i + 1) = y := by
  unfold sgT at *
  rw [take_one h, List.foldl_append, e]
  exact e2

theorem sgI_e {l : List Prt} {key row r : List Vl} {x : List (List Vl) × Bool} (h : pkR l r = key) : sgI l key row x r = x := if_pos h

theorem sgI_p {l : List Prt} {key row r : List Vl} {out : List (List Vl)} (h : ¬ pkR l r = key) : sgI l key row (out, true) r = (out ++ [r], true) := by
  simp only [sgI, if_neg h, Bool.true_eq_false, false_and, if_false]

theorem sgI_y {l : List Prt} {key row r : List Vl} {out : List (List Vl)} (h : ¬ pkR l r = key) (h2 : lkK l key (pkR l r) = true) : sgI l key row (out, false) r = (out ++ [row, r], true) := by
  simp only [sgI, if_neg h, h2, and_self, if_true]

theorem sgI_n {l : List Prt} {key row r : List Vl} {out : List (List Vl)} (h : ¬ pkR l r = key) (h2 : lkK l key (pkR l r) = false) : sgI l key row (out, false) r = (out ++ [r], false) := by
  simp only [sgI, if_neg h, h2, Bool.false_eq_true, and_false, if_false]

theorem sgT_len {l : List Prt} {key row : List Vl} {b : Bool} {rows : List (List Vl)} : ∀ {i : Nat}, i ≤ rows.length → (sgT l key row b rows i).1.length ≤ 2 * i
  | 0, _ => by simp [sgT]
  | i + 1, h => by
    have ih := sgT_len (l := l) (key := key) (row := row) (b := b) (i := i) (Nat.le_of_succ_le h)
    rw [sgT_suc (b := b) (x := sgT l key row b rows i) h rfl rfl]
    generalize sgT l key row b rows i = x at *
    unfold sgI
    split
    · omega
    · split <;> simp only [List.length_append, List.length_cons, List.length_nil] <;> omega

/-- A fresh slice that is put within as one that is only read. -/
theorem w_inF {α : Type} [Enc α] {n : Nat} {t h nx tn} (o : Bool) (i j : Nat) (A : List Cell) (xs : List α) (C : List Cell) (k s : Nat) {cs0 cs1 : List Cell} (h2 : A ++ [slE false xs] ++ C = cs1) (hij : Nat.beq i j = false := by rfl) (hi : look none h i = some (true, cs0) := by rfl) (hj : look none h j = some (true, cs o xs) := by rfl)
    (h1 : cs0 = A ++ [.ref j 0 k s] ++ C := by first | rfl | simp) (hk : xs.length = k := by first | rfl | simp) (hs : sz α = s := by rfl) :
    WGh n ⟨t, h, nx, tn⟩ ⟨t, (i, some (true, cs1)) :: (j, some (false, cs false xs)) :: h, nx, tn⟩ := by
  subst hk hs h1 h2
  have hne : ¬ j = i := fun e => by subst e; simp at hij
  refine (w_freeze j hj (cs_ro xs)).trans (w_node i (by rw [look_cons, if_neg hne]; exact hi) ?_)
  refine CWs.app (CWs.app (CWs.refl _) (.cons ?_ .nil)) (CWs.refl _)
  have e : slE false xs = .sl false xs.length (sz α) (((cs false xs).drop 0).take (xs.length * sz α)) := by rw [cs_whole]
  rw [e]
  exact .look (by rw [look_cons, if_pos rfl]) (by rw [cs_len]; omega) (by rw [cs_whole]; exact cs_shal xs)

/-- A slice in a variable is only read from here on. -/
theorem w_tmpF {α : Type} [Enc α] {n : Nat} {t h nx tn} (o : Bool) (a j : Nat) (xs : List α) (k s : Nat) (hi : look .undef t a = .v false [.ref j 0 k s] := by rfl) (hj : look none h j = some (true, cs o xs) := by rfl) (hk : xs.length = k := by first | rfl | simp) (hs : sz α = s := by rfl) (hlt : Nat.blt a tn = true := by rfl) :
    WGh n ⟨t, h, nx, tn⟩ ⟨(a, .v false [slE false xs]) :: t, (j, some (false, cs false xs)) :: h, nx, tn⟩ := by
  subst hk hs
  refine (w_freeze j hj (cs_ro xs)).trans (w_tmp a hi hlt ?_)
  have e : slE false xs = .sl false xs.length (sz α) (((cs false xs).drop 0).take (xs.length * sz α)) := by rw [cs_whole]
  rw [e]
  exact .v (.cons (.look (by rw [look_cons, if_pos rfl]) (by rw [cs_len]; omega) (by rw [cs_whole]; exact cs_shal xs)) .nil)

theorem ptTab {m : Tbs} {k : Nat} {c : List Cell} (h : k < m.length) (hc : c.length = 1 := by rfl) : put (cs true m) (k * 1) c = some (cs true (m.take k) ++ c ++ cs true (m.drop (k + 1))) := by
  show put (cs true m) (k * sz (List (List Vl))) c = _
  rw [cs_split h, ← Nat.add_zero (k * sz (List (List Vl))), put_mid (cs_take_len (by omega)).symm (put_all (by rw [Enc.len, hc]; rfl))]

theorem csTab {m : Tbs} {k : Nat} {y : List (List Vl)} (h : k < m.length) : roifyL (cs true (m.take k) ++ [slE false y] ++ cs true (m.drop (k + 1))) = cs false (m.set k y) := by
  have e : m.set k y = m.take k ++ [y] ++ m.drop (k + 1) := by
    rw [List.set_eq_take_append_cons_drop, if_pos h]; simp
  have e2 : roifyL [slE false y] = cs false [y] := cs_ro (o := false) [y]
  rw [e, roifyL_append, roifyL_append, cs_ro, cs_ro, Enc.app, Enc.app, e2]
end

section
open Go Go.RowKit Go.IntWalk

open Enc (sz cs)

attribute [local irreducible] IntKind.wrap

/-! ### An operation on right tables -/

attribute [local irreducible] pkR ppN bOf fbN cdN rpN atN tkN moS moI ofT ofN clN2 lkK acT nrN sgI

theorem cs_snF {out : List (List Vl)} {r : List Vl} : cs false out ++ [slE false r] ++ [] = cs false (out ++ [r]) := by
  rw [List.append_nil, Enc.app]; rfl

theorem acT_0 {d : Df} {k : Nat} {rows : List (List Vl)} {o : Opn} (h : ofT d k o = 0) (h2 : thN o (isN d rows o) = 0) (h3 : o.kind = 4 ∨ tkN d rows o.row = false) : acT d k rows o = 0 := by
  unfold acT
  rw [if_pos h, if_pos h2]
  rcases h3 with h3 | h3
  · rw [if_pos h3]
  · split
    · rfl
    · rw [if_neg (by rw [h3]; decide)]

theorem acT_5 {d : Df} {k : Nat} {rows : List (List Vl)} {o : Opn} (h : ofT d k o = 0) (h2 : thN o (isN d rows o) = 0) (h4 : ¬ o.kind = 4) (h3 : tkN d rows o.row = true) : acT d k rows o = 5 := by
  unfold acT
  rw [if_pos h, if_pos h2, if_neg h4, if_pos h3]

theorem acT_t {d : Df} {k : Nat} {rows : List (List Vl)} {o : Opn} (h : ofT d k o = 0) (h2 : ¬ thN o (isN d rows o) = 0) : acT d k rows o = thN o (isN d rows o) := by
  unfold acT
  rw [if_pos h, if_neg h2]

theorem acT_f {d : Df} {k : Nat} {rows : List (List Vl)} {o : Opn} (h : ¬ ofT d k o = 0) : acT d k rows o = ofT d k o := by
  unfold acT
  rw [if_neg h]

theorem isN_y {d : Df} {rows : List (List Vl)} {o : Opn} {a : Int} (ha : atN (ppN d) rows (kyD d o) = a) (h : 0 ≤ a) : isN d rows o = true := by
  unfold isN; rw [ha]; exact decide_eq_true h

theorem isN_n {d : Df} {rows : List (List Vl)} {o : Opn} {a : Int} (ha : atN (ppN d) rows (kyD d o) = a) (h : ¬ 0 ≤ a) : isN d rows o = false := by
  unfold isN; rw [ha]; exact decide_eq_false h

theorem sgT_all {l : List Prt} {key row : List Vl} {b : Bool} {rows : List (List Vl)} {x : List (List Vl) × Bool} (h : sgT l key row b rows rows.length = x) : rows.foldl (sgI l key row) ([], b) = x := by
  unfold sgT at h
  rwa [List.take_length] at h

theorem nr_n {d : Df} {k : Nat} {rows : List (List Vl)} {kd : Int} {t : Int} {row : List Vl} {out : List (List Vl)} {put : Bool} (h4 : ¬ kd = 4) (hrw : ∀ j (hj : j < rows.length), RwI d k rows j hj) (h : sgT (ppN d) (pkR (ppN d) row) row false rows rows.length = (out, put)) : nrN d rows ⟨kd, t, row⟩ = fnS row (out, put) := by
  rw [nrN_n (o := ⟨kd, t, row⟩) h4, ← seIS (tb_srt hrw), ← sgT_all h]
  rfl

theorem nr_4 {d : Df} {k : Nat} {rows : List (List Vl)} {t : Int} {row : List Vl} {out : List (List Vl)} {put : Bool} {j : Nat} (hrw : ∀ j (hj : j < rows.length), RwI d k rows j hj) (ha : atN (ppN d) rows row = j) (h : sgT (ppN d) row row true rows rows.length = (out, put)) : nrN d rows ⟨4, t, row⟩ = out := by
  obtain ⟨hj, e⟩ := atN_mem ha
  have h2 := sgT_all h
  rw [sgI_del hj e (fun i hi q => key_inj hrw hi hj (q.trans e.symm))] at h2
  rw [nrN_4 (o := ⟨4, t, row⟩) rfl ha]
  exact congrArg Prod.fst h2

theorem th_4 {t : Int} {row : List Vl} : thN ⟨4, t, row⟩ false = 6 := by
  unfold thN
  rw [if_neg (by simp), if_pos (by simp)]

theorem sgI_z {l : List Prt} {key row r : List Vl} {out : List (List Vl)} (h : ¬ pkR l r = key) (h2 : lkK l key (pkR l r) = true) : sgI l key row (out, false) r = (out ++ [row] ++ [r], true) := by
  rw [sgI_y h h2]; simp

theorem sl_set {m : Tbs} {k : Nat} {y : List (List Vl)} : Cell.sl false (List.length m) 1 (cs false (m.set k y)) = slE false (m.set k y) := by
  show _ = Cell.sl false (m.set k y).length 1 _
  rw [List.length_set]

theorem cs_wset {m : Tbs} {k : Nat} {y : List (List Vl)} : ((cs false (m.set k y)).drop 0).take (m.length * 1) = cs false (m.set k y) := by
  have h := cs_whole (o := false) (xs := m.set k y)
  rwa [List.length_set] at h

theorem z_one {t : List (List Vl)} : zMdb [t] = 1 + zTab t := rfl

theorem z_tab {m : Tbs} {k : Nat} (h : k < m.length) : zTab m[k] ≤ zMdb m := by
  have h3 := cnt_mem (c := zTab) (List.getElem_mem h)
  have h0 : zMdb m = m.length + cnt zTab m := rfl
  omega

attribute [local irreducible] isN thN kyD

set_option maxHeartbeats 2000000 in
set_option maxRecDepth 100000 in
theorem t_impl_copyMdbG {m : Tbs} (hm : zMdb m ≤ 2000000 := by first | assumption | omega | (simp; done) | (simp; omega)) : T 46 [.val true [.ref 1 0 m.length 1], .ex (cs false m)] [(true, [slE false m])] [none, some (cs false m)] := by
  refine w_call md [[1]] Tryz.func46 rfl ?_
  obtain ⟨z1, z2⟩ := zMdb_b hm
  repeat' ((conv => whnf); (first | refine k0 ?_ | refine jA fun _ => ?_ | refine jB fun _ => ?_ | refine kC (fun _ => ?_) fun _ => ?_ | (apply cx44; refine kl tx44 ?_) | refine jst ?_ | exact ⟨rfl, rfl⟩ | exact jV | fail))
  conv => whnf
  refine loopk (ι := Nat) (fun i => i ≤ m.length) (fun i => m.length - i) (0) [2, 3, 11] (fun i => [(1, .v false [.ptr 2 0]), (10, .v false [.ref 1 0 m.length 1]), (12, .v false [i6 i])]) [none, some fun _ => some (true, cs false m), some fun _ => some (true, [.ref 1 0 m.length 1]), none, some fun i => some (true, [.ref 5 0 i 1]), some fun i => nE (m.take i)] ?_
  refine ⟨by omega, ?_, fun u hi => ?_⟩
  · exact (w_nilN 4 1 [] []).trans (jw [2, 4])
  · repeat' ((conv => whnf); (first | refine k0 ?_ | (apply cx44; refine kl tx44 ?_) | refine jst ?_ | exact ⟨rfl, rfl⟩ | exact jV | fail))
    conv => whnf
    refine ⟨fun hlt => ?_, fun hge => ?_⟩
    · have hi2 : u < m.length := by omega
      obtain ⟨z3, z4⟩ := z2 u hi2
      repeat' ((conv => whnf); (first | refine k0 ?_ | refine jA fun _ => ?_ | refine jB fun _ => ?_ | refine kC (fun _ => ?_) fun _ => ?_ | (apply cx44; refine kl tx44 ?_) | refine jst ?_ | exact ⟨rfl, rfl⟩ | exact jV | fail))
      conv => whnf
      refine loopk (ι := Nat) (fun i => i ≤ m[u].length) (fun i => m[u].length - i) (0) [2, 3, 6, 11, 12, 17, 18] (fun i => [(1, .v false [.ptr 2 0]), (10, .v false [.ref 1 0 m.length 1]), (19, .v false [i6 i])]) [none, some fun _ => some (true, cs false m), some fun _ => some (true, [.ref 1 0 m.length 1]), none, some fun _ => some (true, [.ref 5 0 u 1]), some fun _ => nE (m.take u), none, some fun i => some (true, [.ref 8 0 i 1]), some fun i => nE (m[u].take i)] ?_
      refine ⟨by omega, ?_, fun i hi => ?_⟩
      · exact (w_nilN 7 1 [] []).trans (jw [2, 4, 7])
      · repeat' ((conv => whnf); (first | refine k0 ?_ | (apply cx44; refine kl tx44 ?_) | refine jst ?_ | exact ⟨rfl, rfl⟩ | exact jV | fail))
        conv => whnf
        refine ⟨fun hlt2 => ?_, fun hge2 => ?_⟩
        · have hi3 : i < m[u].length := by omega
          have hz := z4 i hi3
          repeat' ((conv => whnf); (first | (apply cx44; refine kl (tx44 (r := m[u][i])) ?_) | refine Exists.intro _ (Exists.intro _ (And.intro rfl (And.intro ⟨by simp <;> omega, bgb (by omega), bg (by omega)⟩ (apR (xs := m[u].take i) ?_)))) | refine k0 ?_ | refine jA fun _ => ?_ | refine jB fun _ => ?_ | refine kC (fun _ => ?_) fun _ => ?_ | (apply cx44; refine kl tx44 ?_) | refine jst ?_ | exact ⟨rfl, rfl⟩ | exact jV | fail))
          refine ⟨⟨i + 1, by omega⟩, by simp only; omega, (w_inE 89 57 (cs true (m[u].take i)) m[u][i] [] m[u][i].length 3 (tk1 hi3 rfl)).trans ?_⟩
          exact jw [2, 4, 7]
        · obtain rfl : i = m[u].length := by omega
          repeat' ((conv => whnf); (first | refine Exists.intro _ (Exists.intro _ (And.intro rfl (And.intro ⟨by simp <;> omega, bgb (by omega), bg (by omega)⟩ (apR (xs := m.take u) ?_)))) | refine k0 ?_ | refine jA fun _ => ?_ | refine jB fun _ => ?_ | refine kC (fun _ => ?_) fun _ => ?_ | (apply cx44; refine kl tx44 ?_) | refine jst ?_ | exact ⟨rfl, rfl⟩ | exact jV | fail))
          refine ⟨⟨u + 1, by omega⟩, by simp only; omega, (w_inE 10 8 (cs true (m.take u)) (m[u].take m[u].length) [] m[u].length 1 (cs1 := cs true (m.take (u + 1))) (by rw [List.take_length]; exact tk1 hi2 rfl)).trans ?_⟩
          exact jw [2, 4]
    · obtain rfl : u = m.length := by omega
      repeat' ((conv => whnf); (first | refine bstep (w_frz 5 (m.take m.length)) ?_ | refine ⟨snc, cs false m, (by rw [List.take_length]; exact cs_whole), ?_⟩ | refine k0 ?_ | refine jA fun _ => ?_ | refine jB fun _ => ?_ | refine kC (fun _ => ?_) fun _ => ?_ | (apply cx44; refine kl tx44 ?_) | refine jst ?_ | exact ⟨rfl, rfl⟩ | exact jV | fail))

def md2 : FuncId → List Mode
  | 46 => [.str]
  | f => md f

set_option maxHeartbeats 2000000 in
set_option maxRecDepth 100000 in
theorem tx47 {s : List Df} {m : Tbs} {kd t : Int} {row : List Vl} (hmo : moS s m = true := by first | assumption | omega | (simp; done) | (simp; omega)) (hkd : inB kd 1 4 = true := by first | assumption | omega | (simp; done) | (simp; omega)) (hs : zSc s ≤ 2000000 := by first | assumption | omega | (simp; done) | (simp; omega)) (hm : zMdb m + zRow row ≤ 1900000 := by first | assumption | omega | (simp; done) | (simp; omega)) : T 47 [aE s, .val true [slE false m], .val true [i6 kd, i6 t, slE false row]] [(true, [slE false (apN s m ⟨kd, t, row⟩).1]), vI (apN s m ⟨kd, t, row⟩).2] [none, none, none] := by
  refine w_call md2 [[1], []] Tryz.func47 rfl ?_
  obtain ⟨q1, q2⟩ := zSc_b hs
  have hm2 : zMdb m ≤ 2000000 := by omega
  obtain ⟨z1, z2⟩ := zMdb_b hm2
  have hr : RvB row := RvB.of (by omega)
  have hrl := hr.1
  have hf := mo_fb hmo
  have hml := mo_len hmo
  have hI := tx80 (s := s) (kd := kd) (t := t) (row := row)
  by_cases ht : inB t 0 ((s.length : Int) - 1) = true
  · have hb := inB_iff.1 ht
    obtain ⟨k, rfl⟩ : ∃ k : Nat, t = k := ⟨t.toNat, by omega⟩
    have h2 : k < s.length := by omega
    have h3 : k < m.length := by omega
    have hd := q2 k h2
    have hcd := cd_fb hf h2
    have hrw := mo_rw hmo h2 h3
    have hpl := ppN_len (d := s[k])
    obtain ⟨z3, z4⟩ := z2 k h3
    rw [ofN_y h2] at hI
    by_cases c1 : ofT s[k] k ⟨kd, k, row⟩ = 0
    · rw [c1] at hI
      have hK := tx81 (s := s) (kd := kd) (k := k) (row := row)
      obtain ⟨key, hkey⟩ : ∃ key, kyD s[k] ⟨kd, k, row⟩ = key := ⟨_, rfl⟩
      have hkl : key.length ≤ 2000000 := by
        by_cases h4 : kd = 4
        · rw [← hkey, kyD_4 (o := ⟨kd, k, row⟩) h4]; exact hrl
        · rw [← hkey, kyD_n (o := ⟨kd, k, row⟩) h4, pkR_len]; omega
      rw [hkey] at hK
      have hA := tx43 (s := s) (m := m) (t := k) (key := key)
      obtain ⟨a, ha⟩ : ∃ a, atN (ppN s[k]) m[k] key = a := ⟨_, rfl⟩
      rw [ha] at hA
      have hat : ∀ i (hi : i < m[k].length), ((i : Nat) : Int) = a ↔ pkR (ppN s[k]) m[k][i] = key := fun i hi => by
        rw [← ha]; exact at_iff hrw hi
      have hab : -1 ≤ a ∧ a ≤ 2000000 := by
        by_cases hn : 0 ≤ a
        · obtain ⟨j, rfl⟩ : ∃ j : Nat, a = j := ⟨a.toNat, by omega⟩
          have := atN_lt ha
          omega
        · have := atN_nn (plan := ppN s[k]) (rows := m[k]) (key := key) (by rw [ha]; exact hn)
          omega
      have hkc : ∀ b, T 82 [.val true [i6 kd, i6 k, slE false row], aB b] [vI (thN ⟨kd, k, row⟩ b)] [none, none] := fun b => tx82 (t := k) (row := row)
      by_cases hn : 0 ≤ a
      · skip
        have his := isN_y (d := s[k]) (rows := m[k]) (o := ⟨kd, k, row⟩) (by rw [hkey]; exact ha) hn
        have hT := hkc true
        by_cases c2 : thN ⟨kd, k, row⟩ true = 0
        · rw [c2] at hT
          have c3 : thN ⟨kd, k, row⟩ (isN s[k] m[k] ⟨kd, k, row⟩) = 0 := by rw [his]; exact c2
          by_cases h4 : kd = 4
          · subst h4
            have hky : row = key := by rw [← hkey, kyD_4 rfl]
            subst hky
            repeat' ((conv => whnf); (first | (apply cx80; refine kl (hI) ?_) | (apply cx81; refine kl (hK) ?_) | (apply cx43; refine kl (hA) ?_) | (apply cx82; refine kl (hT) ?_) | refine And.intro ⟨by omega, by omega⟩ (Exists.intro _ (And.intro (rdI (i := k) (by omega) (by omega)) ?_)) | (apply cx19; refine kl (tx19 (d := s[k])) ?_) | refine k0 ?_ | refine jA fun _ => ?_ | refine jB fun _ => ?_ | refine kC (fun _ => ?_) fun _ => ?_ | (apply cx80; refine kl tx80 ?_) | (apply cx81; refine kl tx81 ?_) | (apply cx43; refine kl tx43 ?_) | (apply cx82; refine kl tx82 ?_) | (apply cx19; refine kl tx19 ?_) | (apply cx83; refine kl tx83 ?_) | (apply cx18; refine kl tx18 ?_) | (apply cx84; refine kl tx84 ?_) | (apply cx44; refine kl tx44 ?_) | (apply cx46; refine kl tx46 ?_) | refine jst ?_ | exact ⟨rfl, rfl⟩ | exact jV | fail))
            conv => whnf
            refine loopk (ι := Nat × List (List Vl) × Bool) (fun i => (i.1 ≤ m[k].length ∧ sgT (ppN s[k]) row row true m[k] i.1 = i.2) ∧ i.2.2 = true) (fun i => m[k].length - i.1) (0, [], true) [0, 4, 5, 6, 9, 12, 55, 56] (fun i => [(11, .v false [.ref 7 0 i.2.1.length 1]), (13, .v false [b1 i.2.2]), (57, .v false [i6 i.1])]) [none, none, none, none, none, none, none, some fun i => some (true, cs false i.2.1)] ?_
            refine ⟨⟨⟨Nat.zero_le _, rfl⟩, rfl⟩, ?_, fun z hz => ?_⟩
            · exact (w_virt 11 1 rfl rfl).trans (jw [])
            · obtain ⟨i, out, put⟩ := z
              obtain ⟨⟨hi, hx⟩, hp⟩ := hz
              simp only at hi hx hp
              have hol := sgT_len (l := (ppN s[k])) (key := row) (row := row) (b := true) hi
              rw [hx] at hol
              simp only at hol
              subst hp
              repeat' ((conv => whnf); (first | refine k0 ?_ | (apply cx80; refine kl tx80 ?_) | (apply cx81; refine kl tx81 ?_) | (apply cx43; refine kl tx43 ?_) | (apply cx82; refine kl tx82 ?_) | (apply cx19; refine kl tx19 ?_) | (apply cx83; refine kl tx83 ?_) | (apply cx18; refine kl tx18 ?_) | (apply cx84; refine kl tx84 ?_) | (apply cx44; refine kl tx44 ?_) | (apply cx46; refine kl tx46 ?_) | refine jst ?_ | exact ⟨rfl, rfl⟩ | exact jV | fail))
              conv => whnf
              refine ⟨fun hlt => ?_, fun hge => ?_⟩
              · have hi2 : i < m[k].length := by omega
                by_cases e : pkR (ppN s[k]) m[k][i] = row
                · have ea := (hat i hi2).2 e
                  repeat' ((conv => whnf); (first | refine k0 ?_ | refine jA fun _ => ?_ | refine jB fun _ => ?_ | refine kC (fun _ => ?_) fun _ => ?_ | (apply cx80; refine kl tx80 ?_) | (apply cx81; refine kl tx81 ?_) | (apply cx43; refine kl tx43 ?_) | (apply cx82; refine kl tx82 ?_) | (apply cx19; refine kl tx19 ?_) | (apply cx83; refine kl tx83 ?_) | (apply cx18; refine kl tx18 ?_) | (apply cx84; refine kl tx84 ?_) | (apply cx44; refine kl tx44 ?_) | (apply cx46; refine kl tx46 ?_) | refine jst ?_ | exact ⟨rfl, rfl⟩ | exact jV | fail))
                  refine ⟨⟨(i + 1, out, true), ⟨⟨by simp only; omega, sgT_suc hi2 hx (sgI_e e)⟩, rfl⟩⟩, by simp only; omega, ?_⟩
                  exact jw []
                · have ea : ¬ ((i : Nat) : Int) = a := fun q => e ((hat i hi2).1 q)
                  repeat' ((conv => whnf); (first | refine jap (N := cs false ([m[k][i]] : List (List Vl))) (apE (o := false) (xs := out) ?_) | refine k0 ?_ | refine jA fun _ => ?_ | refine jB fun _ => ?_ | refine kC (fun _ => ?_) fun _ => ?_ | (apply cx80; refine kl tx80 ?_) | (apply cx81; refine kl tx81 ?_) | (apply cx43; refine kl tx43 ?_) | (apply cx82; refine kl tx82 ?_) | (apply cx19; refine kl tx19 ?_) | (apply cx83; refine kl tx83 ?_) | (apply cx18; refine kl tx18 ?_) | (apply cx84; refine kl tx84 ?_) | (apply cx44; refine kl tx44 ?_) | (apply cx46; refine kl tx46 ?_) | refine jst ?_ | exact ⟨rfl, rfl⟩ | exact jV | fail))
                  refine ⟨⟨(i + 1, out ++ [m[k][i]], true), ⟨⟨by simp only; omega, sgT_suc hi2 hx (sgI_p e)⟩, rfl⟩⟩, by simp only; omega, ?_⟩
                  exact jw []
              · obtain rfl : i = m[k].length := by omega
                obtain ⟨j, hj⟩ : ∃ j : Nat, a = j := ⟨a.toNat, by omega⟩
                have hnr := nr_4 (t := k) hrw (ha.trans hj) hx
                have hac : acT s[k] k m[k] ⟨4, k, row⟩ = 0 := acT_0 c1 c3 (.inl rfl)
                have hzz := nrN_z (d := s[k]) (rows := m[k]) (o := ⟨4, k, row⟩)
                rw [hnr] at hzz
                have hzt := z_tab h3
                have hzo : zMdb [out] ≤ 2000000 := by rw [z_one]; simp only at hzz; omega
                repeat' ((conv => whnf); (first | refine bstep (w_tmpF false 11 7 out out.length 1) ?_ | (apply cx46; refine kl ((t_impl_copyMdbG (m := [out]))) ?_) | (apply cx46; refine kl (tx46 (m := m)) ?_) | refine And.intro ⟨by omega, by omega⟩ (Exists.intro _ (And.intro (rdI (i := k) (by omega) (by omega)) ?_)) | refine And.intro ⟨rfl, rfl, rfl⟩ ?_ | refine And.intro ⟨by first | omega | (simp; done), by first | omega | (simp; done)⟩ (Exists.intro [slE false (out)] (And.intro rfl ?_)) | refine ko (ptTab h3) ?_ | refine bstep (w_freeze 8 rfl (csTab h3)) ?_ | refine ⟨snc, cs false (m.set k (out)), cs_wset, ?_⟩ | refine k0 ?_ | refine jA fun _ => ?_ | refine jB fun _ => ?_ | refine kC (fun _ => ?_) fun _ => ?_ | (apply cx80; refine kl tx80 ?_) | (apply cx81; refine kl tx81 ?_) | (apply cx43; refine kl tx43 ?_) | (apply cx82; refine kl tx82 ?_) | (apply cx19; refine kl tx19 ?_) | (apply cx83; refine kl tx83 ?_) | (apply cx18; refine kl tx18 ?_) | (apply cx84; refine kl tx84 ?_) | (apply cx44; refine kl tx44 ?_) | (apply cx46; refine kl tx46 ?_) | refine jst ?_ | exact ⟨rfl, rfl⟩ | exact jV | fail))
                exact ⟨by rw [apN_y ⟨hmo, hkd⟩ h2 h3 hac, hnr]; exact congrArg (fun c => [(true, [c]), vI 0]) sl_set, rfl⟩
          · have hky : key = pkR (ppN s[k]) row := by rw [← hkey, kyD_n (o := ⟨kd, k, row⟩) h4]
            subst hky
            repeat' ((conv => whnf); (first | (apply cx80; refine kl (hI) ?_) | (apply cx81; refine kl (hK) ?_) | (apply cx43; refine kl (hA) ?_) | (apply cx82; refine kl (hT) ?_) | refine And.intro ⟨by omega, by omega⟩ (Exists.intro _ (And.intro (rdI (i := k) (by omega) (by omega)) ?_)) | (apply cx19; refine kl (tx19 (d := s[k])) ?_) | refine k0 ?_ | refine jA fun _ => ?_ | refine jB fun _ => ?_ | refine kC (fun _ => ?_) fun _ => ?_ | (apply cx80; refine kl tx80 ?_) | (apply cx81; refine kl tx81 ?_) | (apply cx43; refine kl tx43 ?_) | (apply cx82; refine kl tx82 ?_) | (apply cx19; refine kl tx19 ?_) | (apply cx83; refine kl tx83 ?_) | (apply cx18; refine kl tx18 ?_) | (apply cx84; refine kl tx84 ?_) | (apply cx44; refine kl tx44 ?_) | (apply cx46; refine kl tx46 ?_) | refine jst ?_ | exact ⟨rfl, rfl⟩ | exact jV | fail))
            conv => whnf
            refine loopk (ι := Nat × List (List Vl) × Bool) (fun i => (i.1 ≤ m[k].length ∧ sgT (ppN s[k]) (pkR (ppN s[k]) row) row false m[k] i.1 = i.2) ∧ ∀ j (h : j < m[k].length), j < i.1 → pkR (ppN s[k]) m[k][j] ≠ pkR (ppN s[k]) row → clN2 s[k] m[k][j] row = false) (fun i => m[k].length - i.1) (0, [], false) [0, 4, 5, 6, 9, 12, 55, 56] (fun i => [(11, .v false [.ref 7 0 i.2.1.length 1]), (13, .v false [b1 i.2.2]), (57, .v false [i6 i.1])]) [none, none, none, none, none, none, none, some fun i => some (true, cs false i.2.1)] ?_
            refine ⟨⟨⟨Nat.zero_le _, rfl⟩, by intros; omega⟩, ?_, fun z hz => ?_⟩
            · exact (w_virt 11 1 rfl rfl).trans (jw [])
            · obtain ⟨i, out, put⟩ := z
              obtain ⟨⟨hi, hx⟩, hp⟩ := hz
              simp only at hi hx hp
              have hol := sgT_len (l := (ppN s[k])) (key := (pkR (ppN s[k]) row)) (row := row) (b := false) hi
              rw [hx] at hol
              simp only at hol
              repeat' ((conv => whnf); (first | refine k0 ?_ | (apply cx80; refine kl tx80 ?_) | (apply cx81; refine kl tx81 ?_) | (apply cx43; refine kl tx43 ?_) | (apply cx82; refine kl tx82 ?_) | (apply cx19; refine kl tx19 ?_) | (apply cx83; refine kl tx83 ?_) | (apply cx18; refine kl tx18 ?_) | (apply cx84; refine kl tx84 ?_) | (apply cx44; refine kl tx44 ?_) | (apply cx46; refine kl tx46 ?_) | refine jst ?_ | exact ⟨rfl, rfl⟩ | exact jV | fail))
              conv => whnf
              refine ⟨fun hlt => ?_, fun hge => ?_⟩
              · have hi2 : i < m[k].length := by omega
                have hzr := z4 i hi2
                have lp1 := pkR_len (l := (ppN s[k])) (r := row)
                have lp2 := pkR_len (l := (ppN s[k])) (r := m[k][i])
                by_cases e : pkR (ppN s[k]) m[k][i] = pkR (ppN s[k]) row
                · have ea := (hat i hi2).2 e
                  repeat' ((conv => whnf); (first | refine k0 ?_ | refine jA fun _ => ?_ | refine jB fun _ => ?_ | refine kC (fun _ => ?_) fun _ => ?_ | (apply cx80; refine kl tx80 ?_) | (apply cx81; refine kl tx81 ?_) | (apply cx43; refine kl tx43 ?_) | (apply cx82; refine kl tx82 ?_) | (apply cx19; refine kl tx19 ?_) | (apply cx83; refine kl tx83 ?_) | (apply cx18; refine kl tx18 ?_) | (apply cx84; refine kl tx84 ?_) | (apply cx44; refine kl tx44 ?_) | (apply cx46; refine kl tx46 ?_) | refine jst ?_ | exact ⟨rfl, rfl⟩ | exact jV | fail))
                  refine ⟨⟨(i + 1, out, put), ⟨⟨by simp only; omega, sgT_suc hi2 hx (sgI_e e)⟩, all_suc hp hi2 (fun q => absurd e q)⟩⟩, by simp only; omega, ?_⟩
                  exact jw []
                · have ea : ¬ ((i : Nat) : Int) = a := fun q => e ((hat i hi2).1 q)
                  have hC : T 83 [.val true (dfC false s[k]), aE m[k][i], aE row] [vB (clN2 s[k] m[k][i] row)] [none, none, none] := tx83 hcd
                  cases e2 : clN2 s[k] m[k][i] row
                  · rw [e2] at hC
                    cases put
                    · have hL : T 84 [aE (ppN s[k]), aE (pkR (ppN s[k]) row), aE (pkR (ppN s[k]) m[k][i])] [vB (lkK (ppN s[k]) (pkR (ppN s[k]) row) (pkR (ppN s[k]) m[k][i]))] [none, none, none] := tx84
                      cases e3 : lkK (ppN s[k]) (pkR (ppN s[k]) row) (pkR (ppN s[k]) m[k][i])
                      · rw [e3] at hL
                        repeat' ((conv => whnf); (first | refine And.intro ⟨by omega, by omega⟩ (Exists.intro _ (And.intro (rdI (i := k) (by omega) (by omega)) ?_)) | (apply cx83; refine kl (hC) ?_) | (apply cx84; refine kl (hL) ?_) | (apply cx18; refine kl (tx18 (l := (ppN s[k])) (r := row)) ?_) | (apply cx18; refine kl (tx18 (l := (ppN s[k])) (r := m[k][i])) ?_) | refine jap (N := cs false ([m[k][i]] : List (List Vl))) (apE (o := false) (xs := out) ?_) | refine k0 ?_ | refine jA fun _ => ?_ | refine jB fun _ => ?_ | refine kC (fun _ => ?_) fun _ => ?_ | (apply cx80; refine kl tx80 ?_) | (apply cx81; refine kl tx81 ?_) | (apply cx43; refine kl tx43 ?_) | (apply cx82; refine kl tx82 ?_) | (apply cx19; refine kl tx19 ?_) | (apply cx83; refine kl tx83 ?_) | (apply cx18; refine kl tx18 ?_) | (apply cx84; refine kl tx84 ?_) | (apply cx44; refine kl tx44 ?_) | (apply cx46; refine kl tx46 ?_) | refine jst ?_ | exact ⟨rfl, rfl⟩ | exact jV | fail))
                        refine ⟨⟨(i + 1, out ++ [m[k][i]], false), ⟨⟨by simp only; omega, sgT_suc hi2 hx (sgI_n e e3)⟩, all_suc hp hi2 (fun _ => e2)⟩⟩, by simp only; omega, ?_⟩
                        exact jw []
                      · rw [e3] at hL
                        repeat' ((conv => whnf); (first | refine And.intro ⟨by omega, by omega⟩ (Exists.intro _ (And.intro (rdI (i := k) (by omega) (by omega)) ?_)) | (apply cx83; refine kl (hC) ?_) | (apply cx84; refine kl (hL) ?_) | (apply cx18; refine kl (tx18 (l := (ppN s[k])) (r := row)) ?_) | (apply cx18; refine kl (tx18 (l := (ppN s[k])) (r := m[k][i])) ?_) | (apply cx44; refine kl (tx44 (r := row)) ?_) | refine jap (m := 1) (N := [.ref 10 0 row.length 3]) (apR (o := false) (xs := out) ?_) | refine bstep (w_inF true 12 10 (cs false out) row [] row.length 3 (cs1 := cs false (out ++ [row])) cs_snF) ?_ | refine jap (N := cs false ([m[k][i]] : List (List Vl))) (apE (o := false) (xs := out ++ [row]) ?_) | refine k0 ?_ | refine jA fun _ => ?_ | refine jB fun _ => ?_ | refine kC (fun _ => ?_) fun _ => ?_ | (apply cx80; refine kl tx80 ?_) | (apply cx81; refine kl tx81 ?_) | (apply cx43; refine kl tx43 ?_) | (apply cx82; refine kl tx82 ?_) | (apply cx19; refine kl tx19 ?_) | (apply cx83; refine kl tx83 ?_) | (apply cx18; refine kl tx18 ?_) | (apply cx84; refine kl tx84 ?_) | (apply cx44; refine kl tx44 ?_) | (apply cx46; refine kl tx46 ?_) | refine jst ?_ | exact ⟨rfl, rfl⟩ | exact jV | fail))
                        refine ⟨⟨(i + 1, out ++ [row] ++ [m[k][i]], true), ⟨⟨by simp only; omega, sgT_suc hi2 hx (sgI_z e e3)⟩, all_suc hp hi2 (fun _ => e2)⟩⟩, by simp only; omega, ?_⟩
                        exact jw []
                    · repeat' ((conv => whnf); (first | refine And.intro ⟨by omega, by omega⟩ (Exists.intro _ (And.intro (rdI (i := k) (by omega) (by omega)) ?_)) | (apply cx83; refine kl (hC) ?_) | refine jap (N := cs false ([m[k][i]] : List (List Vl))) (apE (o := false) (xs := out) ?_) | refine k0 ?_ | refine jA fun _ => ?_ | refine jB fun _ => ?_ | refine kC (fun _ => ?_) fun _ => ?_ | (apply cx80; refine kl tx80 ?_) | (apply cx81; refine kl tx81 ?_) | (apply cx43; refine kl tx43 ?_) | (apply cx82; refine kl tx82 ?_) | (apply cx19; refine kl tx19 ?_) | (apply cx83; refine kl tx83 ?_) | (apply cx18; refine kl tx18 ?_) | (apply cx84; refine kl tx84 ?_) | (apply cx44; refine kl tx44 ?_) | (apply cx46; refine kl tx46 ?_) | refine jst ?_ | exact ⟨rfl, rfl⟩ | exact jV | fail))
                      refine ⟨⟨(i + 1, out ++ [m[k][i]], true), ⟨⟨by simp only; omega, sgT_suc hi2 hx (sgI_p e)⟩, all_suc hp hi2 (fun _ => e2)⟩⟩, by simp only; omega, ?_⟩
                      exact jw []
                  · rw [e2] at hC
                    have h5 := acT_5 c1 c3 h4 (tk_y hi2 e e2)
                    repeat' ((conv => whnf); (first | refine And.intro ⟨by omega, by omega⟩ (Exists.intro _ (And.intro (rdI (i := k) (by omega) (by omega)) ?_)) | (apply cx83; refine kl (hC) ?_) | refine k0 ?_ | refine jA fun _ => ?_ | refine jB fun _ => ?_ | refine kC (fun _ => ?_) fun _ => ?_ | (apply cx80; refine kl tx80 ?_) | (apply cx81; refine kl tx81 ?_) | (apply cx43; refine kl tx43 ?_) | (apply cx82; refine kl tx82 ?_) | (apply cx19; refine kl tx19 ?_) | (apply cx83; refine kl tx83 ?_) | (apply cx18; refine kl tx18 ?_) | (apply cx84; refine kl tx84 ?_) | (apply cx44; refine kl tx44 ?_) | (apply cx46; refine kl tx46 ?_) | refine jst ?_ | exact ⟨rfl, rfl⟩ | exact jV | fail))
                    exact ⟨by rw [apN_e ⟨hmo, hkd⟩ h2 h3 (by rw [h5]; decide), h5]; rfl, rfl⟩
              · obtain rfl : i = m[k].length := by omega
                have hnr := nr_n (t := k) h4 hrw hx
                have htk : tkN s[k] m[k] row = false := tk_n (fun j hj q => hp j hj hj q)
                cases put
                · have hnr : nrN s[k] m[k] ⟨kd, k, row⟩ = out ++ [row] := hnr
                  have hac : acT s[k] k m[k] ⟨kd, k, row⟩ = 0 := acT_0 c1 c3 (.inr htk)
                  have hzz := nrN_z (d := s[k]) (rows := m[k]) (o := ⟨kd, k, row⟩)
                  rw [hnr] at hzz
                  have hzt := z_tab h3
                  have hzo : zMdb [out ++ [row]] ≤ 2000000 := by rw [z_one]; simp only at hzz; omega
                  repeat' ((conv => whnf); (first | (apply cx44; refine kl (tx44 (r := row)) ?_) | refine jap (m := 1) (N := [.ref 8 0 row.length 3]) (apR (o := false) (xs := out) ?_) | refine bstep (w_inF true 10 8 (cs false out) row [] row.length 3 (cs1 := cs false (out ++ [row])) cs_snF) ?_ | refine bstep (w_tmpF false 11 10 (out ++ [row]) (out.length + 1) 1) ?_ | (apply cx46; refine kl ((t_impl_copyMdbG (m := [out ++ [row]]))) ?_) | (apply cx46; refine kl (tx46 (m := m)) ?_) | refine And.intro ⟨by omega, by omega⟩ (Exists.intro _ (And.intro (rdI (i := k) (by omega) (by omega)) ?_)) | refine And.intro ⟨rfl, rfl, rfl⟩ ?_ | refine And.intro ⟨by first | omega | (simp; done), by first | omega | (simp; done)⟩ (Exists.intro [slE false (out ++ [row])] (And.intro rfl ?_)) | refine ko (ptTab h3) ?_ | refine bstep (w_freeze 11 rfl (csTab h3)) ?_ | refine ⟨snc, cs false (m.set k (out ++ [row])), cs_wset, ?_⟩ | refine k0 ?_ | refine jA fun _ => ?_ | refine jB fun _ => ?_ | refine kC (fun _ => ?_) fun _ => ?_ | (apply cx80; refine kl tx80 ?_) | (apply cx81; refine kl tx81 ?_) | (apply cx43; refine kl tx43 ?_) | (apply cx82; refine kl tx82 ?_) | (apply cx19; refine kl tx19 ?_) | (apply cx83; refine kl tx83 ?_) | (apply cx18; refine kl tx18 ?_) | (apply cx84; refine kl tx84 ?_) | (apply cx44; refine kl tx44 ?_) | (apply cx46; refine kl tx46 ?_) | refine jst ?_ | exact ⟨rfl, rfl⟩ | exact jV | fail))
                  exact ⟨by rw [apN_y ⟨hmo, hkd⟩ h2 h3 hac, hnr]; exact congrArg (fun c => [(true, [c]), vI 0]) sl_set, rfl⟩
                · have hnr : nrN s[k] m[k] ⟨kd, k, row⟩ = out := hnr
                  have hac : acT s[k] k m[k] ⟨kd, k, row⟩ = 0 := acT_0 c1 c3 (.inr htk)
                  have hzz := nrN_z (d := s[k]) (rows := m[k]) (o := ⟨kd, k, row⟩)
                  rw [hnr] at hzz
                  have hzt := z_tab h3
                  have hzo : zMdb [out] ≤ 2000000 := by rw [z_one]; simp only at hzz; omega
                  repeat' ((conv => whnf); (first | refine bstep (w_tmpF false 11 7 out out.length 1) ?_ | (apply cx46; refine kl ((t_impl_copyMdbG (m := [out]))) ?_) | (apply cx46; refine kl (tx46 (m := m)) ?_) | refine And.intro ⟨by omega, by omega⟩ (Exists.intro _ (And.intro (rdI (i := k) (by omega) (by omega)) ?_)) | refine And.intro ⟨rfl, rfl, rfl⟩ ?_ | refine And.intro ⟨by first | omega | (simp; done), by first | omega | (simp; done)⟩ (Exists.intro [slE false (out)] (And.intro rfl ?_)) | refine ko (ptTab h3) ?_ | refine bstep (w_freeze 8 rfl (csTab h3)) ?_ | refine ⟨snc, cs false (m.set k (out)), cs_wset, ?_⟩ | refine k0 ?_ | refine jA fun _ => ?_ | refine jB fun _ => ?_ | refine kC (fun _ => ?_) fun _ => ?_ | (apply cx80; refine kl tx80 ?_) | (apply cx81; refine kl tx81 ?_) | (apply cx43; refine kl tx43 ?_) | (apply cx82; refine kl tx82 ?_) | (apply cx19; refine kl tx19 ?_) | (apply cx83; refine kl tx83 ?_) | (apply cx18; refine kl tx18 ?_) | (apply cx84; refine kl tx84 ?_) | (apply cx44; refine kl tx44 ?_) | (apply cx46; refine kl tx46 ?_) | refine jst ?_ | exact ⟨rfl, rfl⟩ | exact jV | fail))
                  exact ⟨by rw [apN_y ⟨hmo, hkd⟩ h2 h3 hac, hnr]; exact congrArg (fun c => [(true, [c]), vI 0]) sl_set, rfl⟩
        · rw [apN_e ⟨hmo, hkd⟩ h2 h3 (by rw [acT_t c1 (by rw [his]; exact c2), his]; exact c2), acT_t c1 (by rw [his]; exact c2), his]
          generalize thN ⟨kd, k, row⟩ true = c at *
          repeat' ((conv => whnf); (first | (apply cx80; refine kl (hI) ?_) | (apply cx81; refine kl (hK) ?_) | (apply cx43; refine kl (hA) ?_) | (apply cx82; refine kl (hT) ?_) | refine And.intro ⟨by omega, by omega⟩ (Exists.intro _ (And.intro (rdI (i := k) (by omega) (by omega)) ?_)) | (apply cx19; refine kl (tx19 (d := s[k])) ?_) | refine k0 ?_ | refine jA fun _ => ?_ | refine jB fun _ => ?_ | refine kC (fun _ => ?_) fun _ => ?_ | (apply cx80; refine kl tx80 ?_) | (apply cx81; refine kl tx81 ?_) | (apply cx43; refine kl tx43 ?_) | (apply cx82; refine kl tx82 ?_) | (apply cx19; refine kl tx19 ?_) | (apply cx83; refine kl tx83 ?_) | (apply cx18; refine kl tx18 ?_) | (apply cx84; refine kl tx84 ?_) | (apply cx44; refine kl tx44 ?_) | (apply cx46; refine kl tx46 ?_) | refine jst ?_ | exact ⟨rfl, rfl⟩ | exact jV | fail))
      · skip
        have his := isN_n (d := s[k]) (rows := m[k]) (o := ⟨kd, k, row⟩) (by rw [hkey]; exact ha) hn
        have hT := hkc false
        by_cases c2 : thN ⟨kd, k, row⟩ false = 0
        · rw [c2] at hT
          have c3 : thN ⟨kd, k, row⟩ (isN s[k] m[k] ⟨kd, k, row⟩) = 0 := by rw [his]; exact c2
          by_cases h4 : kd = 4
          · subst h4; rw [th_4] at c2; exact absurd c2 (by decide)
          · have hky : key = pkR (ppN s[k]) row := by rw [← hkey, kyD_n (o := ⟨kd, k, row⟩) h4]
            subst hky
            repeat' ((conv => whnf); (first | (apply cx80; refine kl (hI) ?_) | (apply cx81; refine kl (hK) ?_) | (apply cx43; refine kl (hA) ?_) | (apply cx82; refine kl (hT) ?_) | refine And.intro ⟨by omega, by omega⟩ (Exists.intro _ (And.intro (rdI (i := k) (by omega) (by omega)) ?_)) | (apply cx19; refine kl (tx19 (d := s[k])) ?_) | refine k0 ?_ | refine jA fun _ => ?_ | refine jB fun _ => ?_ | refine kC (fun _ => ?_) fun _ => ?_ | (apply cx80; refine kl tx80 ?_) | (apply cx81; refine kl tx81 ?_) | (apply cx43; refine kl tx43 ?_) | (apply cx82; refine kl tx82 ?_) | (apply cx19; refine kl tx19 ?_) | (apply cx83; refine kl tx83 ?_) | (apply cx18; refine kl tx18 ?_) | (apply cx84; refine kl tx84 ?_) | (apply cx44; refine kl tx44 ?_) | (apply cx46; refine kl tx46 ?_) | refine jst ?_ | exact ⟨rfl, rfl⟩ | exact jV | fail))
            conv => whnf
            refine loopk (ι := Nat × List (List Vl) × Bool) (fun i => (i.1 ≤ m[k].length ∧ sgT (ppN s[k]) (pkR (ppN s[k]) row) row false m[k] i.1 = i.2) ∧ ∀ j (h : j < m[k].length), j < i.1 → pkR (ppN s[k]) m[k][j] ≠ pkR (ppN s[k]) row → clN2 s[k] m[k][j] row = false) (fun i => m[k].length - i.1) (0, [], false) [0, 4, 5, 6, 9, 12, 55, 56] (fun i => [(11, .v false [.ref 7 0 i.2.1.length 1]), (13, .v false [b1 i.2.2]), (57, .v false [i6 i.1])]) [none, none, none, none, none, none, none, some fun i => some (true, cs false i.2.1)] ?_
            refine ⟨⟨⟨Nat.zero_le _, rfl⟩, by intros; omega⟩, ?_, fun z hz => ?_⟩
            · exact (w_virt 11 1 rfl rfl).trans (jw [])
            · obtain ⟨i, out, put⟩ := z
              obtain ⟨⟨hi, hx⟩, hp⟩ := hz
              simp only at hi hx hp
              have hol := sgT_len (l := (ppN s[k])) (key := (pkR (ppN s[k]) row)) (row := row) (b := false) hi
              rw [hx] at hol
              simp only at hol
              repeat' ((conv => whnf); (first | refine k0 ?_ | (apply cx80; refine kl tx80 ?_) | (apply cx81; refine kl tx81 ?_) | (apply cx43; refine kl tx43 ?_) | (apply cx82; refine kl tx82 ?_) | (apply cx19; refine kl tx19 ?_) | (apply cx83; refine kl tx83 ?_) | (apply cx18; refine kl tx18 ?_) | (apply cx84; refine kl tx84 ?_) | (apply cx44; refine kl tx44 ?_) | (apply cx46; refine kl tx46 ?_) | refine jst ?_ | exact ⟨rfl, rfl⟩ | exact jV | fail))
              conv => whnf
              refine ⟨fun hlt => ?_, fun hge => ?_⟩
              · have hi2 : i < m[k].length := by omega
                have hzr := z4 i hi2
                have lp1 := pkR_len (l := (ppN s[k])) (r := row)
                have lp2 := pkR_len (l := (ppN s[k])) (r := m[k][i])
                by_cases e : pkR (ppN s[k]) m[k][i] = pkR (ppN s[k]) row
                · have ea := (hat i hi2).2 e
                  repeat' ((conv => whnf); (first | refine k0 ?_ | refine jA fun _ => ?_ | refine jB fun _ => ?_ | refine kC (fun _ => ?_) fun _ => ?_ | (apply cx80; refine kl tx80 ?_) | (apply cx81; refine kl tx81 ?_) | (apply cx43; refine kl tx43 ?_) | (apply cx82; refine kl tx82 ?_) | (apply cx19; refine kl tx19 ?_) | (apply cx83; refine kl tx83 ?_) | (apply cx18; refine kl tx18 ?_) | (apply cx84; refine kl tx84 ?_) | (apply cx44; refine kl tx44 ?_) | (apply cx46; refine kl tx46 ?_) | refine jst ?_ | exact ⟨rfl, rfl⟩ | exact jV | fail))
                  refine ⟨⟨(i + 1, out, put), ⟨⟨by simp only; omega, sgT_suc hi2 hx (sgI_e e)⟩, all_suc hp hi2 (fun q => absurd e q)⟩⟩, by simp only; omega, ?_⟩
                  exact jw []
                · have ea : ¬ ((i : Nat) : Int) = a := fun q => e ((hat i hi2).1 q)
                  have hC : T 83 [.val true (dfC false s[k]), aE m[k][i], aE row] [vB (clN2 s[k] m[k][i] row)] [none, none, none] := tx83 hcd
                  cases e2 : clN2 s[k] m[k][i] row
                  · rw [e2] at hC
                    cases put
                    · have hL : T 84 [aE (ppN s[k]), aE (pkR (ppN s[k]) row), aE (pkR (ppN s[k]) m[k][i])] [vB (lkK (ppN s[k]) (pkR (ppN s[k]) row) (pkR (ppN s[k]) m[k][i]))] [none, none, none] := tx84
                      cases e3 : lkK (ppN s[k]) (pkR (ppN s[k]) row) (pkR (ppN s[k]) m[k][i])
                      · rw [e3] at hL
                        repeat' ((conv => whnf); (first | refine And.intro ⟨by omega, by omega⟩ (Exists.intro _ (And.intro (rdI (i := k) (by omega) (by omega)) ?_)) | (apply cx83; refine kl (hC) ?_) | (apply cx84; refine kl (hL) ?_) | (apply cx18; refine kl (tx18 (l := (ppN s[k])) (r := row)) ?_) | (apply cx18; refine kl (tx18 (l := (ppN s[k])) (r := m[k][i])) ?_) | refine jap (N := cs false ([m[k][i]] : List (List Vl))) (apE (o := false) (xs := out) ?_) | refine k0 ?_ | refine jA fun _ => ?_ | refine jB fun _ => ?_ | refine kC (fun _ => ?_) fun _ => ?_ | (apply cx80; refine kl tx80 ?_) | (apply cx81; refine kl tx81 ?_) | (apply cx43; refine kl tx43 ?_) | (apply cx82; refine kl tx82 ?_) | (apply cx19; refine kl tx19 ?_) | (apply cx83; refine kl tx83 ?_) | (apply cx18; refine kl tx18 ?_) | (apply cx84; refine kl tx84 ?_) | (apply cx44; refine kl tx44 ?_) | (apply cx46; refine kl tx46 ?_) | refine jst ?_ | exact ⟨rfl, rfl⟩ | exact jV | fail))
                        refine ⟨⟨(i + 1, out ++ [m[k][i]], false), ⟨⟨by simp only; omega, sgT_suc hi2 hx (sgI_n e e3)⟩, all_suc hp hi2 (fun _ => e2)⟩⟩, by simp only; omega, ?_⟩
                        exact jw []
                      · rw [e3] at hL
                        repeat' ((conv => whnf); (first | refine And.intro ⟨by omega, by omega⟩ (Exists.intro _ (And.intro (rdI (i := k) (by omega) (by omega)) ?_)) | (apply cx83; refine kl (hC) ?_) | (apply cx84; refine kl (hL) ?_) | (apply cx18; refine kl (tx18 (l := (ppN s[k])) (r := row)) ?_) | (apply cx18; refine kl (tx18 (l := (ppN s[k])) (r := m[k][i])) ?_) | (apply cx44; refine kl (tx44 (r := row)) ?_) | refine jap (m := 1) (N := [.ref 10 0 row.length 3]) (apR (o := false) (xs := out) ?_) | refine bstep (w_inF true 12 10 (cs false out) row [] row.length 3 (cs1 := cs false (out ++ [row])) cs_snF) ?_ | refine jap (N := cs false ([m[k][i]] : List (List Vl))) (apE (o := false) (xs := out ++ [row]) ?_) | refine k0 ?_ | refine jA fun _ => ?_ | refine jB fun _ => ?_ | refine kC (fun _ => ?_) fun _ => ?_ | (apply cx80; refine kl tx80 ?_) | (apply cx81; refine kl tx81 ?_) | (apply cx43; refine kl tx43 ?_) | (apply cx82; refine kl tx82 ?_) | (apply cx19; refine kl tx19 ?_) | (apply cx83; refine kl tx83 ?_) | (apply cx18; refine kl tx18 ?_) | (apply cx84; refine kl tx84 ?_) | (apply cx44; refine kl tx44 ?_) | (apply cx46; refine kl tx46 ?_) | refine jst ?_ | exact ⟨rfl, rfl⟩ | exact jV | fail))
                        refine ⟨⟨(i + 1, out ++ [row] ++ [m[k][i]], true), ⟨⟨by simp only; omega, sgT_suc hi2 hx (sgI_z e e3)⟩, all_suc hp hi2 (fun _ => e2)⟩⟩, by simp only; omega, ?_⟩
                        exact jw []
                    · repeat' ((conv => whnf); (first | refine And.intro ⟨by omega, by omega⟩ (Exists.intro _ (And.intro (rdI (i := k) (by omega) (by omega)) ?_)) | (apply cx83; refine kl (hC) ?_) | refine jap (N := cs false ([m[k][i]] : List (List Vl))) (apE (o := false) (xs := out) ?_) | refine k0 ?_ | refine jA fun _ => ?_ | refine jB fun _ => ?_ | refine kC (fun _ => ?_) fun _ => ?_ | (apply cx80; refine kl tx80 ?_) | (apply cx81; refine kl tx81 ?_) | (apply cx43; refine kl tx43 ?_) | (apply cx82; refine kl tx82 ?_) | (apply cx19; refine kl tx19 ?_) | (apply cx83; refine kl tx83 ?_) | (apply cx18; refine kl tx18 ?_) | (apply cx84; refine kl tx84 ?_) | (apply cx44; refine kl tx44 ?_) | (apply cx46; refine kl tx46 ?_) | refine jst ?_ | exact ⟨rfl, rfl⟩ | exact jV | fail))
                      refine ⟨⟨(i + 1, out ++ [m[k][i]], true), ⟨⟨by simp only; omega, sgT_suc hi2 hx (sgI_p e)⟩, all_suc hp hi2 (fun _ => e2)⟩⟩, by simp only; omega, ?_⟩
                      exact jw []
                  · rw [e2] at hC
                    have h5 := acT_5 c1 c3 h4 (tk_y hi2 e e2)
                    repeat' ((conv => whnf); (first | refine And.intro ⟨by omega, by omega⟩ (Exists.intro _ (And.intro (rdI (i := k) (by omega) (by omega)) ?_)) | (apply cx83; refine kl (hC) ?_) | refine k0 ?_ | refine jA fun _ => ?_ | refine jB fun _ => ?_ | refine kC (fun _ => ?_) fun _ => ?_ | (apply cx80; refine kl tx80 ?_) | (apply cx81; refine kl tx81 ?_) | (apply cx43; refine kl tx43 ?_) | (apply cx82; refine kl tx82 ?_) | (apply cx19; refine kl tx19 ?_) | (apply cx83; refine kl tx83 ?_) | (apply cx18; refine kl tx18 ?_) | (apply cx84; refine kl tx84 ?_) | (apply cx44; refine kl tx44 ?_) | (apply cx46; refine kl tx46 ?_) | refine jst ?_ | exact ⟨rfl, rfl⟩ | exact jV | fail))
                    exact ⟨by rw [apN_e ⟨hmo, hkd⟩ h2 h3 (by rw [h5]; decide), h5]; rfl, rfl⟩
              · obtain rfl : i = m[k].length := by omega
                have hnr := nr_n (t := k) h4 hrw hx
                have htk : tkN s[k] m[k] row = false := tk_n (fun j hj q => hp j hj hj q)
                cases put
                · have hnr : nrN s[k] m[k] ⟨kd, k, row⟩ = out ++ [row] := hnr
                  have hac : acT s[k] k m[k] ⟨kd, k, row⟩ = 0 := acT_0 c1 c3 (.inr htk)
                  have hzz := nrN_z (d := s[k]) (rows := m[k]) (o := ⟨kd, k, row⟩)
                  rw [hnr] at hzz
                  have hzt := z_tab h3
                  have hzo : zMdb [out ++ [row]] ≤ 2000000 := by rw [z_one]; simp only at hzz; omega
                  repeat' ((conv => whnf); (first | (apply cx44; refine kl (tx44 (r := row)) ?_) | refine jap (m := 1) (N := [.ref 8 0 row.length 3]) (apR (o := false) (xs := out) ?_) | refine bstep (w_inF true 10 8 (cs false out) row [] row.length 3 (cs1 := cs false (out ++ [row])) cs_snF) ?_ | refine bstep (w_tmpF false 11 10 (out ++ [row]) (out.length + 1) 1) ?_ | (apply cx46; refine kl ((t_impl_copyMdbG (m := [out ++ [row]]))) ?_) | (apply cx46; refine kl (tx46 (m := m)) ?_) | refine And.intro ⟨by omega, by omega⟩ (Exists.intro _ (And.intro (rdI (i := k) (by omega) (by omega)) ?_)) | refine And.intro ⟨rfl, rfl, rfl⟩ ?_ | refine And.intro ⟨by first | omega | (simp; done), by first | omega | (simp; done)⟩ (Exists.intro [slE false (out ++ [row])] (And.intro rfl ?_)) | refine ko (ptTab h3) ?_ | refine bstep (w_freeze 11 rfl (csTab h3)) ?_ | refine ⟨snc, cs false (m.set k (out ++ [row])), cs_wset, ?_⟩ | refine k0 ?_ | refine jA fun _ => ?_ | refine jB fun _ => ?_ | refine kC (fun _ => ?_) fun _ => ?_ | (apply cx80; refine kl tx80 ?_) | (apply cx81; refine kl tx81 ?_) | (apply cx43; refine kl tx43 ?_) | (apply cx82; refine kl tx82 ?_) | (apply cx19; refine kl tx19 ?_) | (apply cx83; refine kl tx83 ?_) | (apply cx18; refine kl tx18 ?_) | (apply cx84; refine kl tx84 ?_) | (apply cx44; refine kl tx44 ?_) | (apply cx46; refine kl tx46 ?_) | refine jst ?_ | exact ⟨rfl, rfl⟩ | exact jV | fail))
                  exact ⟨by rw [apN_y ⟨hmo, hkd⟩ h2 h3 hac, hnr]; exact congrArg (fun c => [(true, [c]), vI 0]) sl_set, rfl⟩
                · have hnr : nrN s[k] m[k] ⟨kd, k, row⟩ = out := hnr
                  have hac : acT s[k] k m[k] ⟨kd, k, row⟩ = 0 := acT_0 c1 c3 (.inr htk)
                  have hzz := nrN_z (d := s[k]) (rows := m[k]) (o := ⟨kd, k, row⟩)
                  rw [hnr] at hzz
                  have hzt := z_tab h3
                  have hzo : zMdb [out] ≤ 2000000 := by rw [z_one]; simp only at hzz; omega
                  repeat' ((conv => whnf); (first | refine bstep (w_tmpF false 11 7 out out.length 1) ?_ | (apply cx46; refine kl ((t_impl_copyMdbG (m := [out]))) ?_) | (apply cx46; refine kl (tx46 (m := m)) ?_) | refine And.intro ⟨by omega, by omega⟩ (Exists.intro _ (And.intro (rdI (i := k) (by omega) (by omega)) ?_)) | refine And.intro ⟨rfl, rfl, rfl⟩ ?_ | refine And.intro ⟨by first | omega | (simp; done), by first | omega | (simp; done)⟩ (Exists.intro [slE false (out)] (And.intro rfl ?_)) | refine ko (ptTab h3) ?_ | refine bstep (w_freeze 8 rfl (csTab h3)) ?_ | refine ⟨snc, cs false (m.set k (out)), cs_wset, ?_⟩ | refine k0 ?_ | refine jA fun _ => ?_ | refine jB fun _ => ?_ | refine kC (fun _ => ?_) fun _ => ?_ | (apply cx80; refine kl tx80 ?_) | (apply cx81; refine kl tx81 ?_) | (apply cx43; refine kl tx43 ?_) | (apply cx82; refine kl tx82 ?_) | (apply cx19; refine kl tx19 ?_) | (apply cx83; refine kl tx83 ?_) | (apply cx18; refine kl tx18 ?_) | (apply cx84; refine kl tx84 ?_) | (apply cx44; refine kl tx44 ?_) | (apply cx46; refine kl tx46 ?_) | refine jst ?_ | exact ⟨rfl, rfl⟩ | exact jV | fail))
                  exact ⟨by rw [apN_y ⟨hmo, hkd⟩ h2 h3 hac, hnr]; exact congrArg (fun c => [(true, [c]), vI 0]) sl_set, rfl⟩
        · rw [apN_e ⟨hmo, hkd⟩ h2 h3 (by rw [acT_t c1 (by rw [his]; exact c2), his]; exact c2), acT_t c1 (by rw [his]; exact c2), his]
          generalize thN ⟨kd, k, row⟩ false = c at *
          repeat' ((conv => whnf); (first | (apply cx80; refine kl (hI) ?_) | (apply cx81; refine kl (hK) ?_) | (apply cx43; refine kl (hA) ?_) | (apply cx82; refine kl (hT) ?_) | refine And.intro ⟨by omega, by omega⟩ (Exists.intro _ (And.intro (rdI (i := k) (by omega) (by omega)) ?_)) | (apply cx19; refine kl (tx19 (d := s[k])) ?_) | refine k0 ?_ | refine jA fun _ => ?_ | refine jB fun _ => ?_ | refine kC (fun _ => ?_) fun _ => ?_ | (apply cx80; refine kl tx80 ?_) | (apply cx81; refine kl tx81 ?_) | (apply cx43; refine kl tx43 ?_) | (apply cx82; refine kl tx82 ?_) | (apply cx19; refine kl tx19 ?_) | (apply cx83; refine kl tx83 ?_) | (apply cx18; refine kl tx18 ?_) | (apply cx84; refine kl tx84 ?_) | (apply cx44; refine kl tx44 ?_) | (apply cx46; refine kl tx46 ?_) | refine jst ?_ | exact ⟨rfl, rfl⟩ | exact jV | fail))
    · rw [apN_e ⟨hmo, hkd⟩ h2 h3 (by rw [acT_f c1]; exact c1), acT_f c1]
      generalize ofT s[k] k ⟨kd, k, row⟩ = c at *
      repeat' ((conv => whnf); (first | (apply cx80; refine kl (hI) ?_) | refine k0 ?_ | refine jA fun _ => ?_ | refine jB fun _ => ?_ | refine kC (fun _ => ?_) fun _ => ?_ | (apply cx80; refine kl tx80 ?_) | (apply cx81; refine kl tx81 ?_) | (apply cx43; refine kl tx43 ?_) | (apply cx82; refine kl tx82 ?_) | (apply cx19; refine kl tx19 ?_) | (apply cx83; refine kl tx83 ?_) | (apply cx18; refine kl tx18 ?_) | (apply cx84; refine kl tx84 ?_) | (apply cx44; refine kl tx44 ?_) | (apply cx46; refine kl tx46 ?_) | refine jst ?_ | exact ⟨rfl, rfl⟩ | exact jV | fail))
  · have hnn : ¬ (0 ≤ t ∧ t.toNat < s.length) := fun q => ht (inB_iff.2 (by omega))
    rw [ofN_n (o := ⟨kd, t, row⟩) hnn] at hI
    rw [apN_2 (o := ⟨kd, t, row⟩) ⟨hmo, hkd⟩ (fun q => hnn ⟨q.1, q.2.1⟩)]
    repeat' ((conv => whnf); (first | (apply cx80; refine kl (hI) ?_) | refine k0 ?_ | refine jA fun _ => ?_ | refine jB fun _ => ?_ | refine kC (fun _ => ?_) fun _ => ?_ | (apply cx80; refine kl tx80 ?_) | (apply cx81; refine kl tx81 ?_) | (apply cx43; refine kl tx43 ?_) | (apply cx82; refine kl tx82 ?_) | (apply cx19; refine kl tx19 ?_) | (apply cx83; refine kl tx83 ?_) | (apply cx18; refine kl tx18 ?_) | (apply cx84; refine kl tx84 ?_) | (apply cx44; refine kl tx44 ?_) | (apply cx46; refine kl tx46 ?_) | refine jst ?_ | exact ⟨rfl, rfl⟩ | exact jV | fail))

theorem cx47 {P : Program} {X : FuncId → List Arg → List (Bool × List Cell) → List (Option (List Cell)) → Prop} {a : List Arg} {Q : List (Bool × List Cell) → List (Option (List Cell)) → Prop} (h : ∃ b vals outs, a = b ∧ D P X (.call 47 b vals outs) ∧ Q vals outs) : CallS P X 47 a Q := ⟨h⟩
end

section
open Go Go.RowKit Go.IntWalk

open Enc (sz cs)

attribute [local irreducible] IntKind.wrap

/-! ### Tables that are drawn, bent ones too; values, rows, operations -/

attribute [local irreducible] blC inC sIC p2C dfD rwC apN mdN fbN ppN pkR

theorem on_ok {c : Cur} {n : Nat} (h : CurOk c) : CurOk (onC c n).2 := blC_ok h

/-- Columns up to six or seven. -/
def zcl (n : Nat) : Cl := ⟨⟨#[122]⟩ ++ ⟨#[48 + UInt8.ofNat n]⟩, 4, false⟩

def zcR : Nat → List Cl → Cur → List Cl × Cur
  | 0, l, c => (l, c)
  | f + 1, l, c => if l.length < 6 + (blC c 2).1 then zcR f (l ++ [zcl l.length]) (blC c 2).2 else (l, (blC c 2).2)

theorem zcR_ok : ∀ {f : Nat} {l : List Cl} {c : Cur}, CurOk c → CurOk (zcR f l c).2
  | 0, _, _, h => h
  | f + 1, l, c, h => by
    unfold zcR
    split
    · exact zcR_ok (blC_ok h)
    · exact blC_ok h

theorem zcR_y {f : Nat} {l : List Cl} {c : Cur} (h : l.length < 6 + (blC c 2).1) : zcR (f + 1) l c = zcR f (l ++ [zcl l.length]) (blC c 2).2 := by
  rw [zcR]; exact if_pos h

theorem zcR_n {f : Nat} {l : List Cl} {c : Cur} (h : ¬ l.length < 6 + (blC c 2).1) : zcR (f + 1) l c = (l, (blC c 2).2) := by
  rw [zcR]; exact if_neg h

/-- What is bent of a table: the number of the case, the column, the cursor behind it. -/
def anW (d : Df) (k w : Nat) (c : Cur) : Df × Cur :=
  if w = 0 then ({ d with name := (sIC c [⟨#[]⟩, ⟨#[116, 97, 98, 108, 101]⟩, ⟨#[65]⟩, ⟨#[116, 50]⟩]).1 }, (sIC c [⟨#[]⟩, ⟨#[116, 97, 98, 108, 101]⟩, ⟨#[65]⟩, ⟨#[116, 50]⟩]).2)
  else if w = 1 then ({ d with cols := d.cols.set k { d.cols.getD k ⟨⟨#[]⟩, 0, false⟩ with name := (sIC c [⟨#[105, 100]⟩, ⟨#[97]⟩, ⟨#[105, 110, 116]⟩, ⟨#[]⟩]).1 } }, (sIC c [⟨#[105, 100]⟩, ⟨#[97]⟩, ⟨#[105, 110, 116]⟩, ⟨#[]⟩]).2)
  else if w = 2 then ({ d with cols := d.cols.set k { d.cols.getD k ⟨⟨#[]⟩, 0, false⟩ with type := (blC c 6).1 } }, (blC c 6).2)
  else if w = 3 then ({ d with cols := d.cols.set k { d.cols.getD k ⟨⟨#[]⟩, 0, false⟩ with null := !(d.cols.getD k ⟨⟨#[]⟩, 0, false⟩).null } }, c)
  else if w = 4 then ({ d with prim := (p2C c (d.cols.length + 1)).1 }, (p2C c (d.cols.length + 1)).2)
  else if w = 5 then ({ d with prim := d.prim ++ [d.prim.getD 0 ⟨0, false⟩] }, c)
  else if w = 6 then ({ d with idx := d.idx ++ [⟨(sIC c [⟨#[117, 98]⟩, ⟨#[119]⟩, ⟨#[100, 101, 115, 99]⟩]).1, false, (p2C (sIC c [⟨#[117, 98]⟩, ⟨#[119]⟩, ⟨#[100, 101, 115, 99]⟩]).2 (d.cols.length + 1)).1⟩] }, (p2C (sIC c [⟨#[117, 98]⟩, ⟨#[119]⟩, ⟨#[100, 101, 115, 99]⟩]).2 (d.cols.length + 1)).2)
  else if w = 7 then ({ d with cols := d.cols.take (blC c 2).1 }, (blC c 2).2)
  else if w = 8 then ({ d with cols := (zcR 6 d.cols c).1 }, (zcR 6 d.cols c).2)
  else (d, c)

def anK (c : Cur) : Nat × Cur := blC (dfD c ⟨#[116]⟩).2 (dfD c ⟨#[116]⟩).1.cols.length

def anF (c : Cur) : Df × Cur := anW (dfD c ⟨#[116]⟩).1 (anK c).1 (blC (anK c).2 16).1 (blC (anK c).2 16).2

theorem anW_ok {d : Df} {k w : Nat} {c : Cur} (h : CurOk c) : CurOk (anW d k w c).2 := by
  unfold anW
  split
  · exact sIC_ok h
  split
  · exact sIC_ok h
  split
  · exact blC_ok h
  split
  · exact h
  split
  · exact p2C_ok h
  split
  · exact h
  split
  · exact p2C_ok (sIC_ok h)
  split
  · exact blC_ok h
  split
  · exact zcR_ok h
  · exact h

theorem anF_ok {c : Cur} (h : CurOk c) : CurOk (anF c).2 := anW_ok (blC_ok (blC_ok (dfD_ok h)))

/-- One to four tables, the later ones bent. -/
def laC (c : Cur) : List Df × Cur :=
  if (blC (ldC c).2 8).1 = 0 then ((ldC c).1 ++ [(anF (blC (ldC c).2 8).2).1], (anF (blC (ldC c).2 8).2).2)
  else if (blC (ldC c).2 8).1 = 1 then ((ldC c).1 ++ [(dfD (blC (ldC c).2 8).2 ⟨#[118]⟩).1, (dfD (dfD (blC (ldC c).2 8).2 ⟨#[118]⟩).2 ⟨#[119]⟩).1], (dfD (dfD (blC (ldC c).2 8).2 ⟨#[118]⟩).2 ⟨#[119]⟩).2)
  else ((ldC c).1, (blC (ldC c).2 8).2)

theorem laC_ok {c : Cur} (h : CurOk c) : CurOk (laC c).2 := by
  unfold laC
  split
  · exact anF_ok (blC_ok (ldC_ok h))
  · split
    · exact dfD_ok (name := ⟨#[119]⟩) (dfD_ok (name := ⟨#[118]⟩) (blC_ok (ldC_ok h)))
    · exact blC_ok (ldC_ok h)

/-- l22Defs -/
def dsC (c : Cur) : List Df × Cur := if (onC c 12).1 = true then laC (onC c 12).2 else ldC (onC c 12).2

theorem dsC_ok {c : Cur} (h : CurOk c) : CurOk (dsC c).2 := by
  unfold dsC
  split
  · exact laC_ok (on_ok h)
  · exact ldC_ok (on_ok h)

/-- A value of a type. -/
def voB (c : Cur) (t : Int) : Vl × Cur :=
  if t = 1 then (⟨t, (inC c [0, 1, 2, 3, -1, 255, 256, 2147483647, -2147483648]).1, ⟨#[]⟩⟩, (inC c [0, 1, 2, 3, -1, 255, 256, 2147483647, -2147483648]).2)
  else if t = 2 then (⟨t, (inC (blC c 100000).2 [0, 1, -1, 255, 256, -256, -257, 65535, 1000000000000000, -1000000000000000, -((blC c 100000).1 : Int)]).1, ⟨#[]⟩⟩, (inC (blC c 100000).2 [0, 1, -1, 255, 256, -256, -257, 65535, 1000000000000000, -1000000000000000, -((blC c 100000).1 : Int)]).2)
  else if t = 3 then (⟨t, 0, (sIC c [⟨#[]⟩, ⟨#[97]⟩, ⟨#[98]⟩, ⟨#[97, 98]⟩, ⟨#[0]⟩, ⟨#[97, 0]⟩, ⟨#[0, 255]⟩, ⟨#[255]⟩, ⟨#[119, 111, 114, 100]⟩, ⟨#[122]⟩]).1⟩, (sIC c [⟨#[]⟩, ⟨#[97]⟩, ⟨#[98]⟩, ⟨#[97, 98]⟩, ⟨#[0]⟩, ⟨#[97, 0]⟩, ⟨#[0, 255]⟩, ⟨#[255]⟩, ⟨#[119, 111, 114, 100]⟩, ⟨#[122]⟩]).2)
  else (⟨t, (blC c 2).1, ⟨#[]⟩⟩, (blC c 2).2)

def voC (c : Cur) (t : Int) (null : Bool) : Vl × Cur :=
  if null = true then (if (onC c 4).1 = true then (⟨0, 0, ⟨#[]⟩⟩, (onC c 4).2) else voB (onC c 4).2 t) else voB c t

theorem voB_ok {c : Cur} {t : Int} (h : CurOk c) : CurOk (voB c t).2 := by
  unfold voB
  split
  · exact inC_ok h
  split
  · exact inC_ok (blC_ok h)
  split
  · exact sIC_ok h
  · exact blC_ok h

theorem voC_ok {c : Cur} {t : Int} {b : Bool} (h : CurOk c) : CurOk (voC c t b).2 := by
  unfold voC
  split
  · split
    · exact on_ok h
    · exact voB_ok (on_ok h)
  · exact voB_ok h

theorem voB_s {c : Cur} {t : Int} : (voB c t).1.s.size ≤ 4 := by
  unfold voB
  split
  · exact Nat.zero_le _
  split
  · exact Nat.zero_le _
  split
  · have h := sIC_mem (c := c) (l := [⟨#[]⟩, ⟨#[97]⟩, ⟨#[98]⟩, ⟨#[97, 98]⟩, ⟨#[0]⟩, ⟨#[97, 0]⟩, ⟨#[0, 255]⟩, ⟨#[255]⟩, ⟨#[119, 111, 114, 100]⟩, ⟨#[122]⟩]) (by simp)
    generalize (sIC c [⟨#[]⟩, ⟨#[97]⟩, ⟨#[98]⟩, ⟨#[97, 98]⟩, ⟨#[0]⟩, ⟨#[97, 0]⟩, ⟨#[0, 255]⟩, ⟨#[255]⟩, ⟨#[119, 111, 114, 100]⟩, ⟨#[122]⟩]) = x at *
    simp only [List.mem_cons, List.not_mem_nil, or_false] at h
    rcases h with h | h | h | h | h | h | h | h | h | h <;> (simp only; rw [h]; decide)
  · exact Nat.zero_le _

theorem voC_s {c : Cur} {t : Int} {b : Bool} : (voC c t b).1.s.size ≤ 4 := by
  unfold voC
  split
  · split
    · exact Nat.zero_le _
    · exact voB_s
  · exact voB_s

/-- l2Draw -/
def vdC (c : Cur) : Vl × Cur := voC (blC c 4).2 ((1 + (blC c 4).1 : Nat) : Int) true

theorem vdC_ok {c : Cur} (h : CurOk c) : CurOk (vdC c).2 := voC_ok (blC_ok h)

/-- A number near an edge. -/
def nuL (c : Cur) : List Int := [0, 1, -1, 63, 127, 128, 255, 256, 65535, 65536, 2147483647, -2147483648, 2147483648, -2147483649, 1000000000000000, -1000000000000000, 1000000000000001, 9223372036854775807, -9223372036854775808, ((blC c 100000).1 : Int), -((blC (blC c 100000).2 100000).1 : Int)]

def nuC (c : Cur) : Int × Cur := inC (blC (blC c 100000).2 100000).2 (nuL c)

theorem nuC_ok {c : Cur} (h : CurOk c) : CurOk (nuC c).2 := inC_ok (blC_ok (blC_ok h))

/-- l2Any -/
def vaW (v : Vl) (w : Nat) (c : Cur) : Vl × Cur :=
  if w = 0 then ({ v with k := (blC c 6).1 }, (blC c 6).2)
  else if w = 1 then ({ v with n := (nuC c).1 }, (nuC c).2)
  else if w = 2 then ({ v with s := ⟨(List.replicate (30 + (blC c 2).1) (0 : UInt8)).toArray⟩ }, (blC c 2).2)
  else if w = 3 then ({ v with s := (sIC c [⟨#[105, 116, 39, 115]⟩, ⟨#[97, 32, 98]⟩, ⟨#[126]⟩, ⟨#[127]⟩]).1 }, (sIC c [⟨#[105, 116, 39, 115]⟩, ⟨#[97, 32, 98]⟩, ⟨#[126]⟩, ⟨#[127]⟩]).2)
  else (v, c)

def vaC (c : Cur) : Vl × Cur := vaW (vdC c).1 (blC (vdC c).2 10).1 (blC (vdC c).2 10).2

theorem vaW_ok {v : Vl} {w : Nat} {c : Cur} (h : CurOk c) : CurOk (vaW v w c).2 := by
  unfold vaW
  split
  · exact blC_ok h
  split
  · exact nuC_ok h
  split
  · exact blC_ok h
  split
  · exact sIC_ok h
  · exact h

theorem vaC_ok {c : Cur} (h : CurOk c) : CurOk (vaC c).2 := vaW_ok (blC_ok (vdC_ok h))

theorem vaW_s {v : Vl} {w : Nat} {c : Cur} (h : v.s.size ≤ 4) : (vaW v w c).1.s.size ≤ 31 := by
  unfold vaW
  split
  · simp only; omega
  split
  · simp only; omega
  split
  · have hb := blC_lt (c := c) (n := 2) (by decide)
    show (List.replicate (30 + (blC c 2).1) (0 : UInt8)).toArray.size ≤ 31
    rw [List.size_toArray, List.length_replicate]; omega
  split
  · have h := sIC_mem (c := c) (l := [⟨#[105, 116, 39, 115]⟩, ⟨#[97, 32, 98]⟩, ⟨#[126]⟩, ⟨#[127]⟩]) (by simp)
    generalize (sIC c [⟨#[105, 116, 39, 115]⟩, ⟨#[97, 32, 98]⟩, ⟨#[126]⟩, ⟨#[127]⟩]) = x at *
    simp only [List.mem_cons, List.not_mem_nil, or_false] at h
    rcases h with h | h | h | h <;> (simp only; rw [h]; decide)
  · exact Nat.le_trans h (by decide)

theorem vaC_s {c : Cur} : (vaC c).1.s.size ≤ 31 := vaW_s voC_s

/-- l11Any: a row, bent. -/
def lgR (l : List Cl) : Nat → List Vl → List Vl
  | 0, r => r
  | i + 1, r => if (l.getD i ⟨⟨#[]⟩, 0, false⟩).type = 3 then (lgR l i r).set i ⟨3, 0, ⟨(List.replicate 30 (0 : UInt8)).toArray⟩⟩ else lgR l i r

def raW (l : List Cl) (r : List Vl) (w : Nat) (c : Cur) : List Vl × Cur :=
  if w = 0 then (r.set 0 (vaC c).1, (vaC c).2)
  else if w = 1 then (r ++ [(vdC c).1], (vdC c).2)
  else if w = 2 then (lgR l l.length r, c)
  else (r, c)

def raC (c : Cur) (l : List Cl) : List Vl × Cur := raW l (rwC c l l.length).1 (blC (rwC c l l.length).2 10).1 (blC (rwC c l l.length).2 10).2

theorem raW_ok {l : List Cl} {r : List Vl} {w : Nat} {c : Cur} (h : CurOk c) : CurOk (raW l r w c).2 := by
  unfold raW
  split
  · exact vaC_ok h
  split
  · exact vdC_ok h
  split
  · exact h
  · exact h

theorem raC_ok {c : Cur} {l : List Cl} (h : CurOk c) : CurOk (raC c l).2 := raW_ok (blC_ok (rwC_ok h))

theorem lgR_len {l : List Cl} {r : List Vl} : ∀ {i : Nat}, (lgR l i r).length = r.length
  | 0 => rfl
  | i + 1 => by
    rw [lgR]
    split
    · rw [List.length_set, lgR_len]
    · exact lgR_len

/-- l22Op: an operation. -/
def opK (c : Cur) : Int × Cur := inC c [1, 1, 1, 2, 2, 3, 4]

def opT (s : List Df) (c : Cur) : Nat × Cur := blC (opK c).2 s.length

def opR (s : List Df) (c : Cur) : List Vl × Cur := rwC (opT s c).2 (s.getD (opT s c).1 ⟨⟨#[]⟩, [], [], []⟩).cols (s.getD (opT s c).1 ⟨⟨#[]⟩, [], [], []⟩).cols.length

noncomputable def opC1 (s : List Df) (c : Cur) : Opn × Cur :=
  (⟨(opK c).1, (opT s c).1, if (opK c).1 = 4 then pkR (ppN (s.getD (opT s c).1 ⟨⟨#[]⟩, [], [], []⟩)) (opR s c).1 else (opR s c).1⟩, (opR s c).2)

theorem opC1_ok {s : List Df} {c : Cur} (h : CurOk c) : CurOk (opC1 s c).2 := rwC_ok (blC_ok (inC_ok h))

/-- l22Ops -/
noncomputable def osR (s : List Df) : Nat → List Opn → Cur → List Opn × Cur
  | 0, l, c => (l, c)
  | i + 1, l, c => osR s i (l ++ [(opC1 s c).1]) (opC1 s c).2

theorem osR_ok {s : List Df} : ∀ {i : Nat} {l : List Opn} {c : Cur}, CurOk c → CurOk (osR s i l c).2
  | 0, _, _, h => h
  | i + 1, _, _, h => osR_ok (i := i) (opC1_ok h)

noncomputable def osC (c : Cur) (s : List Df) (most : Nat) : List Opn × Cur := osR s (1 + (blC c most).1) [] (blC c most).2

/-- l22AnyOp -/
noncomputable def oaW (s : List Df) (o : Opn) (w : Nat) (c : Cur) : Opn × Cur :=
  if w = 0 then ({ o with kind := (blC c 6).1 }, (blC c 6).2)
  else if w = 1 then ({ o with t := (inC c [-1, 0, 1, 3]).1 }, (inC c [-1, 0, 1, 3]).2)
  else if w = 2 then ({ o with row := (raC c (s.getD 0 ⟨⟨#[]⟩, [], [], []⟩).cols).1 }, (raC c (s.getD 0 ⟨⟨#[]⟩, [], [], []⟩).cols).2)
  else if w = 3 then ({ o with row := o.row ++ [(vdC c).1] }, (vdC c).2)
  else (o, c)

noncomputable def oaC (c : Cur) (s : List Df) : Opn × Cur := oaW s (opC1 s c).1 (blC (opC1 s c).2 12).1 (blC (opC1 s c).2 12).2

theorem oaW_ok {s : List Df} {o : Opn} {w : Nat} {c : Cur} (h : CurOk c) : CurOk (oaW s o w c).2 := by
  unfold oaW
  split
  · exact blC_ok h
  split
  · exact inC_ok h
  split
  · exact raC_ok h
  split
  · exact vdC_ok h
  · exact h

/-- l22Draw: tables that are right. -/
noncomputable def tdR (s : List Df) : Nat → Tbs → Cur → Tbs × Cur
  | 0, m, c => (m, c)
  | i + 1, m, c => tdR s i (apN s m (opC1 s c).1).1 (opC1 s c).2

theorem tdR_ok {s : List Df} : ∀ {i : Nat} {m : Tbs} {c : Cur}, CurOk c → CurOk (tdR s i m c).2
  | 0, _, _, h => h
  | i + 1, _, _, h => tdR_ok (i := i) (opC1_ok h)

noncomputable def tdC (c : Cur) (s : List Df) (most : Nat) : Tbs × Cur := tdR s (blC c most).1 (mdN s) (blC c most).2
end

end Go.Proofs.YtddikflnjloagaaGreatDoor
