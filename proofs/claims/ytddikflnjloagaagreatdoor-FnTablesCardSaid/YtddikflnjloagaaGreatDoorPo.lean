/- What the law comes to: functions of the program, each with what it gives back, and the plain facts behind them. -/
import Derived.Test.YtddikflnjloagaaGreatDoorChecked
import Derived.IntWalk
import Derived.Test.YtddikflnjloagaaGreatDoorPf
import Derived.Test.YtddikflnjloagaaGreatDoorPn
namespace Go.Proofs.YtddikflnjloagaaGreatDoor

section
open Go Go.RowKit Go.IntWalk

open Enc (sz cs)

attribute [local irreducible] IntKind.wrap

attribute [local irreducible] fbN cdN moS apN ldC dsC tdC taC opC1 nwC

set_option maxRecDepth 100000 in
theorem tx8 {b : List UInt8} : T 8 [aE b] [vB (decide (1048576 < (b.length : Int)))] [none] := by
  refine w_call md [] Tryz.func8 rfl ?_
  repeat' ((conv => whnf); (first | refine k0 ?_ | refine jA fun _ => ?_ | refine jB fun _ => ?_ | refine kC (fun _ => ?_) fun _ => ?_ | refine jst ?_ | exact ⟨rfl, rfl⟩ | exact jV | fail))
  all_goals first | exact ⟨by rw [decide_eq_true (by omega)], rfl⟩ | exact ⟨by rw [decide_eq_false (by omega)], rfl⟩

theorem cx8 {P : Program} {X : FuncId → List Arg → List (Bool × List Cell) → List (Option (List Cell)) → Prop} {a : List Arg} {Q : List (Bool × List Cell) → List (Option (List Cell)) → Prop} (h : ∃ b vals outs, a = b ∧ D P X (.call 8 b vals outs) ∧ Q vals outs) : CallS P X 8 a Q := ⟨h⟩

set_option maxRecDepth 100000 in
theorem tx28 {l : List Vl} (hl : l.length ≤ 10000000 := by first | assumption | omega | (simp; done) | (simp; omega)) : T 28 [aE l, aE l] [vB true] [none, none] := by
  refine w_call md [] Tryz.func28 rfl ?_
  repeat' ((conv => whnf); (first | refine k0 ?_ | refine jA fun _ => ?_ | refine jB fun _ => ?_ | refine kC (fun _ => ?_) fun _ => ?_ | refine jst ?_ | exact ⟨rfl, rfl⟩ | exact jV | fail))
  conv => whnf
  refine loopk (ι := Nat) (fun i => i ≤ l.length) (fun i => l.length - i) (0) [0, 1] (fun i => [(5, .v false [i6 i])]) [none, none] ?_
  refine ⟨by omega, ?_, fun i hi => ?_⟩
  · exact jw []
  · repeat' ((conv => whnf); (first | refine k0 ?_ | refine jst ?_ | exact ⟨rfl, rfl⟩ | exact jV | fail))
    conv => whnf
    refine ⟨fun hlt => ?_, fun hge => ?_⟩
    · have hi2 : i < l.length := by omega
      repeat' ((conv => whnf); (first | refine ko (eqV_y rfl) ?_ | refine k0 ?_ | refine jA fun _ => ?_ | refine jB fun _ => ?_ | refine kC (fun _ => ?_) fun _ => ?_ | refine jst ?_ | exact ⟨rfl, rfl⟩ | exact jV | fail))
      refine ⟨⟨i + 1, by omega⟩, by simp only; omega, ?_⟩
      exact jw []
    · repeat' ((conv => whnf); (first | refine k0 ?_ | refine jA fun _ => ?_ | refine jB fun _ => ?_ | refine kC (fun _ => ?_) fun _ => ?_ | refine jst ?_ | exact ⟨rfl, rfl⟩ | exact jV | fail))

theorem cx28 {P : Program} {X : FuncId → List Arg → List (Bool × List Cell) → List (Option (List Cell)) → Prop} {a : List Arg} {Q : List (Bool × List Cell) → List (Option (List Cell)) → Prop} (h : ∃ b vals outs, a = b ∧ D P X (.call 28 b vals outs) ∧ Q vals outs) : CallS P X 28 a Q := ⟨h⟩

set_option maxRecDepth 100000 in
theorem tx58 {t : List (List Vl)} (hl : t.length ≤ 10000000 := by first | assumption | omega | (simp; done) | (simp; omega)) (hel : ∀ x ∈ t, x.length ≤ 10000000 := by assumption) : T 58 [aE t, aE t] [vB true] [none, none] := by
  refine w_call md [] Tryz.func58 rfl ?_
  repeat' ((conv => whnf); (first | refine k0 ?_ | refine jA fun _ => ?_ | refine jB fun _ => ?_ | refine kC (fun _ => ?_) fun _ => ?_ | (apply cx28; refine kl tx28 ?_) | refine jst ?_ | exact ⟨rfl, rfl⟩ | exact jV | fail))
  conv => whnf
  refine loopk (ι := Nat) (fun i => i ≤ t.length) (fun i => t.length - i) (0) [0, 1] (fun i => [(5, .v false [i6 i])]) [none, none] ?_
  refine ⟨by omega, ?_, fun i hi => ?_⟩
  · exact jw []
  · repeat' ((conv => whnf); (first | refine k0 ?_ | (apply cx28; refine kl tx28 ?_) | refine jst ?_ | exact ⟨rfl, rfl⟩ | exact jV | fail))
    conv => whnf
    refine ⟨fun hlt => ?_, fun hge => ?_⟩
    · have hi2 : i < t.length := by omega
      have he := hel _ (List.getElem_mem hi2)
      repeat' ((conv => whnf); (first | (apply cx28; refine kl (tx28 (l := t[i])) ?_) | refine k0 ?_ | refine jA fun _ => ?_ | refine jB fun _ => ?_ | refine kC (fun _ => ?_) fun _ => ?_ | refine jst ?_ | exact ⟨rfl, rfl⟩ | exact jV | fail))
      refine ⟨⟨i + 1, by omega⟩, by simp only; omega, ?_⟩
      exact jw []
    · repeat' ((conv => whnf); (first | refine k0 ?_ | refine jA fun _ => ?_ | refine jB fun _ => ?_ | refine kC (fun _ => ?_) fun _ => ?_ | (apply cx28; refine kl tx28 ?_) | refine jst ?_ | exact ⟨rfl, rfl⟩ | exact jV | fail))

theorem cx58 {P : Program} {X : FuncId → List Arg → List (Bool × List Cell) → List (Option (List Cell)) → Prop} {a : List Arg} {Q : List (Bool × List Cell) → List (Option (List Cell)) → Prop} (h : ∃ b vals outs, a = b ∧ D P X (.call 58 b vals outs) ∧ Q vals outs) : CallS P X 58 a Q := ⟨h⟩

set_option maxRecDepth 100000 in
theorem tx16 {m : Tbs} (hl : m.length ≤ 10000000 := by first | assumption | omega | (simp; done) | (simp; omega)) (hm : ∀ x ∈ m, OkTb x := by first | assumption | omega | (simp; done) | (simp; omega)) : T 16 [.val true [slE false m], .val true [slE false m]] [vB true] [none, none] := by
  refine w_call md [] Tryz.func16 rfl ?_
  repeat' ((conv => whnf); (first | refine k0 ?_ | refine jA fun _ => ?_ | refine jB fun _ => ?_ | refine kC (fun _ => ?_) fun _ => ?_ | (apply cx58; refine kl tx58 ?_) | refine jst ?_ | exact ⟨rfl, rfl⟩ | exact jV | fail))
  conv => whnf
  refine loopk (ι := Nat) (fun i => i ≤ m.length) (fun i => m.length - i) (0) [2, 3] (fun i => [(5, .v false [i6 i])]) [none, none, none, none] ?_
  refine ⟨by omega, ?_, fun i hi => ?_⟩
  · exact jw []
  · repeat' ((conv => whnf); (first | refine k0 ?_ | (apply cx58; refine kl tx58 ?_) | refine jst ?_ | exact ⟨rfl, rfl⟩ | exact jV | fail))
    conv => whnf
    refine ⟨fun hlt => ?_, fun hge => ?_⟩
    · have hi2 : i < m.length := by omega
      obtain ⟨he1, he2⟩ := hm _ (List.getElem_mem hi2)
      repeat' ((conv => whnf); (first | (apply cx58; refine kl (tx58 (t := m[i])) ?_) | refine And.intro ⟨by omega, by omega⟩ (Exists.intro _ (And.intro (rdI (i := i) (by omega) (by omega)) ?_)) | refine k0 ?_ | refine jA fun _ => ?_ | refine jB fun _ => ?_ | refine kC (fun _ => ?_) fun _ => ?_ | refine jst ?_ | exact ⟨rfl, rfl⟩ | exact jV | fail))
      refine ⟨⟨i + 1, by omega⟩, by simp only; omega, ?_⟩
      exact jw []
    · repeat' ((conv => whnf); (first | refine k0 ?_ | refine jA fun _ => ?_ | refine jB fun _ => ?_ | refine kC (fun _ => ?_) fun _ => ?_ | (apply cx58; refine kl tx58 ?_) | refine jst ?_ | exact ⟨rfl, rfl⟩ | exact jV | fail))

theorem cx16 {P : Program} {X : FuncId → List Arg → List (Bool × List Cell) → List (Option (List Cell)) → Prop} {a : List Arg} {Q : List (Bool × List Cell) → List (Option (List Cell)) → Prop} (h : ∃ b vals outs, a = b ∧ D P X (.call 16 b vals outs) ∧ Q vals outs) : CallS P X 16 a Q := ⟨h⟩

/-- What DrawMdb gives. -/
theorem dm_all {b : List UInt8} : zSc (dmS b).1 ≤ 404 ∧ fbN (dmS b).1 = -1 ∧ moS (dmS b).1 (dmM b).1 = true ∧ zMdb (dmM b).1 ≤ 30000 ∧ zRow (dmO b).1.row ≤ 256 ∧ ∃ k, ∃ h : k < (dmS b).1.length, (dmO b).1.t = (k : Nat) ∧ OpF (dmS b).1[k] (dmO b).1.kind (dmO b).1.row := by
  have hsb := ldC_b (c := nwC b)
  have hsz := szC_b (b := b) (most := 14) (by decide)
  exact ⟨hsb.1.z, ldC_fb, dmM_mo, tdC_z hsb.1 (by omega) (by omega), opC1_z hsb.1, opC1_f ldC_fb hsb.1.pos⟩
end

section
open Go Go.RowKit Go.IntWalk

open Enc (sz cs)

attribute [local irreducible] IntKind.wrap

attribute [local irreducible] fbN cdN moS apN ldC dsC tdC taC opC1 nwC raN ppN pkR

set_option maxHeartbeats 2000000 in
set_option maxRecDepth 100000 in
theorem tx3 {b : List UInt8} (hb : b.length ≤ 140737488355327 := by first | assumption | omega | (simp; done) | (simp; omega)) : T 3 [aE b] [vB true] [none] := by
  refine w_call md [] Tryz.func3 rfl ?_
  by_cases hz : 1048576 < b.length
  · have hB : T 8 [aE b] [vB true] [none] := by
      have h := tx8 (b := b)
      rwa [decide_eq_true (by omega)] at h
    repeat' ((conv => whnf); (first | (apply cx8; refine kl (hB) ?_) | refine k0 ?_ | refine jA fun _ => ?_ | refine jB fun _ => ?_ | refine kC (fun _ => ?_) fun _ => ?_ | (apply cx9; refine kl tx9 ?_) | (apply cx11; refine kl tx11 ?_) | (apply cx10; refine kl tx10 ?_) | (apply cx12; refine kl tx12 ?_) | (apply cx13; refine kl tx13 ?_) | (apply cx14; refine kl tx14 ?_) | refine jst ?_ | exact ⟨rfl, rfl⟩ | exact jV | fail))
  · have hB : T 8 [aE b] [vB false] [none] := by
      have h := tx8 (b := b)
      rwa [decide_eq_false (by omega)] at h
    have hD := tx9 (b := b) (by omega)
    have hP := dm_all (b := b)
    generalize (dmS b).1 = s at hD hP
    generalize (dmM b).1 = m at hD hP
    generalize (dmO b).1 = o at hD hP
    obtain ⟨hs, hf, hmo, hm, ho, k, h2, ht, hof⟩ := hP
    obtain ⟨kd, t, row⟩ := o
    simp only at ht ho hof
    subst ht
    have hD : T 9 [aE b] [(false, [slE false s]), (true, [slE false m]), (true, [i6 kd, i6 (k : Nat), slE false row])] [none] := hD
    have h3 : k < m.length := by rw [mo_len hmo]; exact h2
    have hT := ap_told hmo h2 h3 hof
    have hkd := inB_iff.1 hof.kind
    have her : zRow row = row.length + cnt zVl row := rfl
    have hrv : RvB row := RvB.of (by omega)
    obtain ⟨q1, q2⟩ := zSc_b (s := s) (by omega)
    have hd := q2 k h2
    have hpl := ppN_len (d := s[k])
    obtain ⟨g, c, hr⟩ : ∃ g c, apN s m ⟨kd, k, row⟩ = (g, c) := ⟨_, _, rfl⟩
    have hIm : T 13 [aE s, .val true [slE false m], .val true [i6 kd, i6 k, slE false row]] [(true, [slE true g]), vI c] [none, none, none] := by
      have h := tx13 (s := s) (m := m) (kd := kd) (t := k) (row := row)
      rwa [hr] at h
    rw [hr] at hT
    simp only at hT
    obtain ⟨key, hkey⟩ : ∃ key, kyD s[k] ⟨kd, k, row⟩ = key := ⟨_, rfl⟩
    have hkl : key.length ≤ 2000000 := by
      by_cases h4 : kd = 4
      · rw [← hkey, kyD_4 (o := ⟨kd, k, row⟩) h4]; show row.length ≤ 2000000; omega
      · rw [← hkey, kyD_n (o := ⟨kd, k, row⟩) h4, pkR_len]; omega
    rw [hkey] at hT
    obtain ⟨r, th, hra⟩ : ∃ r th, raN s m k key = (r, th) := ⟨_, _, rfl⟩
    have hRa : T 12 [aE s, .val true [slE false m], aI k, aE key] [vE r, vB th] [none, none, none, none] := by
      have h := tx12 (s := s) (m := m) (t := k) (key := key)
      rwa [hra] at h
    rw [hra] at hT
    simp only at hT
    obtain ⟨t1, t2, t3, t4⟩ := hT
    by_cases h7 : c = 7
    · obtain ⟨h4, hl⟩ := t1 h7
      have hky : pkR (ppN s[k]) row = key := by rw [← hkey, kyD_n (o := ⟨kd, k, row⟩) h4]
      subst hky
      have hL : T 14 [aE s, aI (k : Nat), aE row] [vB true] [none, none, none] := by
        have h := tx14 (s := s) (k := k) (row := row) hf h2
        rwa [hl] at h
      repeat' ((conv => whnf); (first | (apply cx8; refine kl (hB) ?_) | (apply cx9; refine kl (hD) ?_) | (apply cx13; refine kl (hIm) ?_) | (apply cx12; refine kl (hRa) ?_) | (apply cx14; refine kl (hL) ?_) | (apply cx11; refine kl (tx11 (d := s[k])) ?_) | (apply cx10; refine kl (tx10 (l := ppN s[k]) (r := row)) ?_) | refine And.intro ⟨by omega, by omega⟩ (Exists.intro _ (And.intro (rdI (i := k) (by omega) (by omega)) ?_)) | refine k0 ?_ | refine jA fun _ => ?_ | refine jB fun _ => ?_ | refine kC (fun _ => ?_) fun _ => ?_ | refine jst ?_ | exact ⟨rfl, rfl⟩ | exact jV | fail))
    · have t2 := t2 h7
      have t3 := t3 h7
      have t4 := t4 h7
      by_cases h4 : kd = 4
      · subst h4
        have hky : row = key := by rw [← hkey, kyD_4 rfl]
        subst hky
        have t4 := t4 (.inr rfl)
        cases th
        · have h6 : c = 6 := Classical.byContradiction fun q => by simpa using t4.2 q
          repeat' ((conv => whnf); (first | (apply cx8; refine kl (hB) ?_) | (apply cx9; refine kl (hD) ?_) | (apply cx13; refine kl (hIm) ?_) | (apply cx12; refine kl (hRa) ?_) | refine And.intro ⟨by omega, by omega⟩ (Exists.intro _ (And.intro (rdI (i := k) (by omega) (by omega)) ?_)) | refine k0 ?_ | refine jA fun _ => ?_ | refine jB fun _ => ?_ | refine kC (fun _ => ?_) fun _ => ?_ | (apply cx11; refine kl tx11 ?_) | (apply cx10; refine kl tx10 ?_) | (apply cx14; refine kl tx14 ?_) | refine jst ?_ | exact ⟨rfl, rfl⟩ | exact jV | fail))
        · have h6 : ¬ c = 6 := t4.1 rfl
          repeat' ((conv => whnf); (first | (apply cx8; refine kl (hB) ?_) | (apply cx9; refine kl (hD) ?_) | (apply cx13; refine kl (hIm) ?_) | (apply cx12; refine kl (hRa) ?_) | refine And.intro ⟨by omega, by omega⟩ (Exists.intro _ (And.intro (rdI (i := k) (by omega) (by omega)) ?_)) | refine k0 ?_ | refine jA fun _ => ?_ | refine jB fun _ => ?_ | refine kC (fun _ => ?_) fun _ => ?_ | (apply cx11; refine kl tx11 ?_) | (apply cx10; refine kl tx10 ?_) | (apply cx14; refine kl tx14 ?_) | refine jst ?_ | exact ⟨rfl, rfl⟩ | exact jV | fail))
      · have hky : pkR (ppN s[k]) row = key := by rw [← hkey, kyD_n (o := ⟨kd, k, row⟩) h4]
        subst hky
        rcases (show kd = 1 ∨ kd = 2 ∨ kd = 3 by omega) with e | e | e
        · have t2 := t2 e
          cases th
          · have h6 : ¬ c = 4 := fun q => by simpa using t2.2 q
            repeat' ((conv => whnf); (first | (apply cx8; refine kl (hB) ?_) | (apply cx9; refine kl (hD) ?_) | (apply cx13; refine kl (hIm) ?_) | (apply cx12; refine kl (hRa) ?_) | (apply cx11; refine kl (tx11 (d := s[k])) ?_) | (apply cx10; refine kl (tx10 (l := ppN s[k]) (r := row)) ?_) | refine And.intro ⟨by omega, by omega⟩ (Exists.intro _ (And.intro (rdI (i := k) (by omega) (by omega)) ?_)) | refine k0 ?_ | refine jA fun _ => ?_ | refine jB fun _ => ?_ | refine kC (fun _ => ?_) fun _ => ?_ | (apply cx14; refine kl tx14 ?_) | refine jst ?_ | exact ⟨rfl, rfl⟩ | exact jV | fail))
          · have h6 : c = 4 := t2.1 rfl
            repeat' ((conv => whnf); (first | (apply cx8; refine kl (hB) ?_) | (apply cx9; refine kl (hD) ?_) | (apply cx13; refine kl (hIm) ?_) | (apply cx12; refine kl (hRa) ?_) | (apply cx11; refine kl (tx11 (d := s[k])) ?_) | (apply cx10; refine kl (tx10 (l := ppN s[k]) (r := row)) ?_) | refine And.intro ⟨by omega, by omega⟩ (Exists.intro _ (And.intro (rdI (i := k) (by omega) (by omega)) ?_)) | refine k0 ?_ | refine jA fun _ => ?_ | refine jB fun _ => ?_ | refine kC (fun _ => ?_) fun _ => ?_ | (apply cx14; refine kl tx14 ?_) | refine jst ?_ | exact ⟨rfl, rfl⟩ | exact jV | fail))
        · rcases t3 e with h6 | h6
          · repeat' ((conv => whnf); (first | (apply cx8; refine kl (hB) ?_) | (apply cx9; refine kl (hD) ?_) | (apply cx13; refine kl (hIm) ?_) | (apply cx12; refine kl (hRa) ?_) | (apply cx11; refine kl (tx11 (d := s[k])) ?_) | (apply cx10; refine kl (tx10 (l := ppN s[k]) (r := row)) ?_) | refine And.intro ⟨by omega, by omega⟩ (Exists.intro _ (And.intro (rdI (i := k) (by omega) (by omega)) ?_)) | refine k0 ?_ | refine jA fun _ => ?_ | refine jB fun _ => ?_ | refine kC (fun _ => ?_) fun _ => ?_ | (apply cx14; refine kl tx14 ?_) | refine jst ?_ | exact ⟨rfl, rfl⟩ | exact jV | fail))
          · repeat' ((conv => whnf); (first | (apply cx8; refine kl (hB) ?_) | (apply cx9; refine kl (hD) ?_) | (apply cx13; refine kl (hIm) ?_) | (apply cx12; refine kl (hRa) ?_) | (apply cx11; refine kl (tx11 (d := s[k])) ?_) | (apply cx10; refine kl (tx10 (l := ppN s[k]) (r := row)) ?_) | refine And.intro ⟨by omega, by omega⟩ (Exists.intro _ (And.intro (rdI (i := k) (by omega) (by omega)) ?_)) | refine k0 ?_ | refine jA fun _ => ?_ | refine jB fun _ => ?_ | refine kC (fun _ => ?_) fun _ => ?_ | (apply cx14; refine kl tx14 ?_) | refine jst ?_ | exact ⟨rfl, rfl⟩ | exact jV | fail))
        · have t4 := t4 (.inl e)
          cases th
          · have h6 : c = 6 := Classical.byContradiction fun q => by simpa using t4.2 q
            repeat' ((conv => whnf); (first | (apply cx8; refine kl (hB) ?_) | (apply cx9; refine kl (hD) ?_) | (apply cx13; refine kl (hIm) ?_) | (apply cx12; refine kl (hRa) ?_) | (apply cx11; refine kl (tx11 (d := s[k])) ?_) | (apply cx10; refine kl (tx10 (l := ppN s[k]) (r := row)) ?_) | refine And.intro ⟨by omega, by omega⟩ (Exists.intro _ (And.intro (rdI (i := k) (by omega) (by omega)) ?_)) | refine k0 ?_ | refine jA fun _ => ?_ | refine jB fun _ => ?_ | refine kC (fun _ => ?_) fun _ => ?_ | (apply cx14; refine kl tx14 ?_) | refine jst ?_ | exact ⟨rfl, rfl⟩ | exact jV | fail))
          · have h6 : ¬ c = 6 := t4.1 rfl
            repeat' ((conv => whnf); (first | (apply cx8; refine kl (hB) ?_) | (apply cx9; refine kl (hD) ?_) | (apply cx13; refine kl (hIm) ?_) | (apply cx12; refine kl (hRa) ?_) | (apply cx11; refine kl (tx11 (d := s[k])) ?_) | (apply cx10; refine kl (tx10 (l := ppN s[k]) (r := row)) ?_) | refine And.intro ⟨by omega, by omega⟩ (Exists.intro _ (And.intro (rdI (i := k) (by omega) (by omega)) ?_)) | refine k0 ?_ | refine jA fun _ => ?_ | refine jB fun _ => ?_ | refine kC (fun _ => ?_) fun _ => ?_ | (apply cx14; refine kl tx14 ?_) | refine jst ?_ | exact ⟨rfl, rfl⟩ | exact jV | fail))
end

section
open Go Go.RowKit Go.IntWalk

open Enc (sz cs)

attribute [local irreducible] IntKind.wrap

attribute [local irreducible] fbN cdN moS apN ldC dsC tdC taC opC1 nwC raN ppN pkR

set_option maxHeartbeats 2000000 in
set_option maxRecDepth 100000 in
theorem tx4 {b : List UInt8} (hb : b.length ≤ 140737488355327 := by first | assumption | omega | (simp; done) | (simp; omega)) : T 4 [aE b] [vB true] [none] := by
  refine w_call md [] Tryz.func4 rfl ?_
  by_cases hz : 1048576 < b.length
  · have hB : T 8 [aE b] [vB true] [none] := by
      have h := tx8 (b := b)
      rwa [decide_eq_true (by omega)] at h
    repeat' ((conv => whnf); (first | (apply cx8; refine kl (hB) ?_) | refine k0 ?_ | refine jA fun _ => ?_ | refine jB fun _ => ?_ | refine kC (fun _ => ?_) fun _ => ?_ | (apply cx9; refine kl tx9 ?_) | (apply cx13; refine kl tx13 ?_) | (apply cx15; refine kl tx15 ?_) | (apply cx16; refine kl tx16 ?_) | (apply cx17; refine kl tx17 ?_) | (apply cx19; refine kl tx19 ?_) | (apply cx18; refine kl tx18 ?_) | (apply cx12; refine kl tx12 ?_) | (apply cx20; refine kl tx20 ?_) | refine jst ?_ | exact ⟨rfl, rfl⟩ | exact jV | fail))
  · have hB : T 8 [aE b] [vB false] [none] := by
      have h := tx8 (b := b)
      rwa [decide_eq_false (by omega)] at h
    have hD := tx9 (b := b) (by omega)
    have hP := dm_all (b := b)
    generalize (dmS b).1 = s at hD hP
    generalize (dmM b).1 = m at hD hP
    generalize (dmO b).1 = o at hD hP
    obtain ⟨hs, hf, hmo, hm, ho, k, h2, ht, hof⟩ := hP
    obtain ⟨kd, t, row⟩ := o
    simp only at ht ho hof
    subst ht
    have hD : T 9 [aE b] [(false, [slE false s]), (true, [slE false m]), (true, [i6 kd, i6 (k : Nat), slE false row])] [none] := hD
    have h3 : k < m.length := by rw [mo_len hmo]; exact h2
    have hdn := ap_done (row := row) hmo hof.kind h2 h3
    have hkd := inB_iff.1 hof.kind
    have her : zRow row = row.length + cnt zVl row := rfl
    have hrv : RvB row := RvB.of (by omega)
    have hrl := hrv.1
    obtain ⟨q1, q2⟩ := zSc_b (s := s) (by omega)
    have hd := q2 k h2
    have hpl := ppN_len (d := s[k])
    obtain ⟨z1, z2⟩ := zMdb_b (m := m) (by omega)
    obtain ⟨z3, z4⟩ := z2 k h3
    have hgz := apN_z (s := s) (m := m) (o := ⟨kd, k, row⟩)
    have her2 := apN_err (s := s) (m := m) (o := ⟨kd, k, row⟩)
    have hmo2 := mo_ap (o := ⟨kd, k, row⟩) hmo
    obtain ⟨g, c, hr⟩ : ∃ g c, apN s m ⟨kd, k, row⟩ = (g, c) := ⟨_, _, rfl⟩
    have hSp : T 15 [aE s, .val true [slE false m], .val true [i6 kd, i6 k, slE false row]] [(true, [slE false g]), vI c] [none, none, none] := by
      have h := tx15 (s := s) (m := m) (kd := kd) (t := k) (row := row)
      rwa [hr] at h
    have hIm : T 13 [aE s, .val true [slE false m], .val true [i6 kd, i6 k, slE false row]] [(true, [slE true g]), vI c] [none, none, none] := by
      have h := tx13 (s := s) (m := m) (kd := kd) (t := k) (row := row)
      rwa [hr] at h
    have hMo : T 17 [aE s, .val true [slE false m]] [vB true] [none, none] := by
      have h := tx17 (s := s) (m := m)
      rwa [moIS, hmo] at h
    rw [hr] at hgz her2 hdn hmo2
    simp only at hgz her2 hdn hmo2
    have eo : zRow (Opn.row ⟨kd, k, row⟩) = zRow row := rfl
    obtain ⟨hm1, hm2⟩ := OkMdb.of (m := m) (by omega)
    obtain ⟨hg1, hg2⟩ := OkMdb.of (m := g) (by omega)
    by_cases hc : c = 0
    · obtain ⟨p1, p2, p3⟩ := hdn hc
      subst hc
      have hMg : T 17 [aE s, .val true [slE false g]] [vB true] [none, none] := by
        have h := tx17 (s := s) (m := g)
        rwa [moIS, hmo2] at h
      obtain ⟨key, hkey⟩ : ∃ key, kyD s[k] ⟨kd, k, row⟩ = key := ⟨_, rfl⟩
      have hkl : key.length ≤ 2000000 := by
        by_cases h4 : kd = 4
        · rw [← hkey, kyD_4 (o := ⟨kd, k, row⟩) h4]; show row.length ≤ 2000000; omega
        · rw [← hkey, kyD_n (o := ⟨kd, k, row⟩) h4, pkR_len]; omega
      rw [hkey] at p3
      by_cases h4 : kd = 4
      · subst h4
        have hky : row = key := by rw [← hkey, kyD_4 rfl]
        subst hky
        have p2 := p2 rfl
        have hRa : T 12 [aE s, .val true [slE false g], aI k, aE row] [vE ([] : List Vl), vB false] [none, none, none, none] := by
          have h := tx12 (s := s) (m := g) (t := k) (key := row)
          rwa [p2] at h
        have hRa : T 12 [aE s, .val true [slE false g], aI k, aE row] [vE ([] : List Vl), vB false] [none, none, none, none] := hRa
        repeat' ((conv => whnf); (first | (apply cx8; refine kl (hB) ?_) | (apply cx9; refine kl (hD) ?_) | (apply cx13; refine kl (hIm) ?_) | (apply cx15; refine kl (hSp) ?_) | (apply cx16; refine kl (tx16 (m := g)) ?_) | (apply cx17; refine kl (hMo) ?_) | (apply cx12; refine kl (hRa) ?_) | refine And.intro ⟨by omega, by omega⟩ (Exists.intro _ (And.intro (rdI (i := k) (by omega) (by omega)) ?_)) | refine k0 ?_ | refine jA fun _ => ?_ | refine jB fun _ => ?_ | refine kC (fun _ => ?_) fun _ => ?_ | (apply cx19; refine kl tx19 ?_) | (apply cx18; refine kl tx18 ?_) | (apply cx20; refine kl tx20 ?_) | refine jst ?_ | exact ⟨rfl, rfl⟩ | exact jV | fail))
        conv => whnf
        refine loopk (ι := Nat) (fun i => i ≤ m[k].length) (fun i => m[k].length - i) (0) [3, 5, 6, 10, 13] (fun i => [(14, .v false [i6 i])]) [none, none, none, none, none, none, none] ?_
        refine ⟨Nat.zero_le _, ?_, fun i hi => ?_⟩
        · exact jw [4]
        · by_cases hlt : i < m[k].length
          · have hzi := z4 i hlt
            have hpi := pkR_len (l := ppN s[k]) (r := m[k][i])
            by_cases he : pkR (ppN s[k]) m[k][i] = row
            · have hS : T 20 [aE (pkR (ppN s[k]) m[k][i]), aE row] [vB true] [none, none] := by
                have h := tx20 (a := pkR (ppN s[k]) m[k][i]) (b := row)
                rwa [show smR _ row = true from bOf_y he] at h
              rw [he] at hS
              have hPk : T 18 [aE (ppN s[k]), aE m[k][i]] [vE row] [none, none] := by
                have h := tx18 (l := ppN s[k]) (r := m[k][i])
                rwa [he] at h
              repeat' ((conv => whnf); (first | (apply cx19; refine kl (tx19 (d := s[k])) ?_) | (apply cx18; refine kl (hPk) ?_) | (apply cx12; refine kl (hRa) ?_) | (apply cx20; refine kl (hS) ?_) | refine And.intro ⟨by omega, by omega⟩ (Exists.intro _ (And.intro (rdI (i := k) (by omega) (by omega)) ?_)) | refine And.intro ⟨by omega, by omega⟩ (Exists.intro _ (And.intro (rdI (i := i) (by omega) (by omega)) ?_)) | refine k0 ?_ | refine jA fun _ => ?_ | refine jB fun _ => ?_ | refine kC (fun _ => ?_) fun _ => ?_ | (apply cx8; refine kl tx8 ?_) | (apply cx9; refine kl tx9 ?_) | (apply cx13; refine kl tx13 ?_) | (apply cx15; refine kl tx15 ?_) | (apply cx16; refine kl tx16 ?_) | (apply cx17; refine kl tx17 ?_) | refine jst ?_ | exact ⟨rfl, rfl⟩ | exact jV | fail))
              refine ⟨⟨i + 1, by omega⟩, by simp only; omega, ?_⟩
              exact jw [4]
            · have hS : T 20 [aE (pkR (ppN s[k]) m[k][i]), aE row] [vB false] [none, none] := by
                have h := tx20 (a := pkR (ppN s[k]) m[k][i]) (b := row)
                rwa [show smR _ row = false from bOf_n he] at h
              have hR2 : T 12 [aE s, .val true [slE false g], aI k, aE (pkR (ppN s[k]) m[k][i])] [vE m[k][i], vB true] [none, none, none, none] := by
                have h := tx12 (s := s) (m := g) (t := k) (key := pkR (ppN s[k]) m[k][i])
                rwa [p3 _ (List.getElem_mem hlt) he] at h
              have hS2 : T 20 [aE m[k][i], aE m[k][i]] [vB true] [none, none] := by
                have h := tx20 (a := m[k][i]) (b := m[k][i])
                rwa [show smR m[k][i] m[k][i] = true from bOf_y rfl] at h
              repeat' ((conv => whnf); (first | (apply cx19; refine kl (tx19 (d := s[k])) ?_) | (apply cx18; refine kl (tx18 (l := ppN s[k]) (r := m[k][i])) ?_) | (apply cx12; refine kl (hR2) ?_) | (apply cx20; refine kl (hS) ?_) | (apply cx20; refine kl (hS2) ?_) | refine And.intro ⟨by omega, by omega⟩ (Exists.intro _ (And.intro (rdI (i := k) (by omega) (by omega)) ?_)) | refine And.intro ⟨by omega, by omega⟩ (Exists.intro _ (And.intro (rdI (i := i) (by omega) (by omega)) ?_)) | refine k0 ?_ | refine jA fun _ => ?_ | refine jB fun _ => ?_ | refine kC (fun _ => ?_) fun _ => ?_ | (apply cx8; refine kl tx8 ?_) | (apply cx9; refine kl tx9 ?_) | (apply cx13; refine kl tx13 ?_) | (apply cx15; refine kl tx15 ?_) | (apply cx16; refine kl tx16 ?_) | (apply cx17; refine kl tx17 ?_) | refine jst ?_ | exact ⟨rfl, rfl⟩ | exact jV | fail))
              refine ⟨⟨i + 1, by omega⟩, by simp only; omega, ?_⟩
              exact jw [4]
          · repeat' ((conv => whnf); (first | (apply cx17; refine kl (hMg) ?_) | refine k0 ?_ | refine jA fun _ => ?_ | refine jB fun _ => ?_ | refine kC (fun _ => ?_) fun _ => ?_ | (apply cx8; refine kl tx8 ?_) | (apply cx9; refine kl tx9 ?_) | (apply cx13; refine kl tx13 ?_) | (apply cx15; refine kl tx15 ?_) | (apply cx16; refine kl tx16 ?_) | (apply cx19; refine kl tx19 ?_) | (apply cx18; refine kl tx18 ?_) | (apply cx12; refine kl tx12 ?_) | (apply cx20; refine kl tx20 ?_) | refine jst ?_ | exact ⟨rfl, rfl⟩ | exact jV | fail))
      · have hky : pkR (ppN s[k]) row = key := by rw [← hkey, kyD_n (o := ⟨kd, k, row⟩) h4]
        subst hky
        have p1 := p1 h4
        have hRa : T 12 [aE s, .val true [slE false g], aI k, aE (pkR (ppN s[k]) row)] [vE row, vB true] [none, none, none, none] := by
          have h := tx12 (s := s) (m := g) (t := k) (key := pkR (ppN s[k]) row)
          rwa [p1] at h
        have hSr : T 20 [aE row, aE row] [vB true] [none, none] := by
          have h := tx20 (a := row) (b := row)
          rwa [show smR row row = true from bOf_y rfl] at h
        repeat' ((conv => whnf); (first | (apply cx8; refine kl (hB) ?_) | (apply cx9; refine kl (hD) ?_) | (apply cx13; refine kl (hIm) ?_) | (apply cx15; refine kl (hSp) ?_) | (apply cx16; refine kl (tx16 (m := g)) ?_) | (apply cx17; refine kl (hMo) ?_) | (apply cx12; refine kl (hRa) ?_) | refine And.intro ⟨by omega, by omega⟩ (Exists.intro _ (And.intro (rdI (i := k) (by omega) (by omega)) ?_)) | (apply cx19; refine kl (tx19 (d := s[k])) ?_) | (apply cx18; refine kl (tx18 (l := ppN s[k]) (r := row)) ?_) | (apply cx20; refine kl (hSr) ?_) | refine k0 ?_ | refine jA fun _ => ?_ | refine jB fun _ => ?_ | refine kC (fun _ => ?_) fun _ => ?_ | refine jst ?_ | exact ⟨rfl, rfl⟩ | exact jV | fail))
        conv => whnf
        refine loopk (ι := Nat) (fun i => i ≤ m[k].length) (fun i => m[k].length - i) (0) [3, 5, 6, 13] (fun i => [(14, .v false [i6 i]), (10, .v false [.ref 6 0 (pkR (ppN s[k]) row).length 3])]) [none, none, none, none, none, none, some fun _ => nE (pkR (ppN s[k]) row)] ?_
        refine ⟨Nat.zero_le _, ?_, fun i hi => ?_⟩
        · exact jw [4]
        · by_cases hlt : i < m[k].length
          · have hzi := z4 i hlt
            have hpi := pkR_len (l := ppN s[k]) (r := m[k][i])
            by_cases he : pkR (ppN s[k]) m[k][i] = (pkR (ppN s[k]) row)
            · have hS : T 20 [aE (pkR (ppN s[k]) m[k][i]), aE (pkR (ppN s[k]) row)] [vB true] [none, none] := by
                have h := tx20 (a := pkR (ppN s[k]) m[k][i]) (b := (pkR (ppN s[k]) row))
                rwa [show smR _ (pkR (ppN s[k]) row) = true from bOf_y he] at h
              rw [he] at hS
              have hPk : T 18 [aE (ppN s[k]), aE m[k][i]] [vE (pkR (ppN s[k]) row)] [none, none] := by
                have h := tx18 (l := ppN s[k]) (r := m[k][i])
                rwa [he] at h
              repeat' ((conv => whnf); (first | (apply cx19; refine kl (tx19 (d := s[k])) ?_) | (apply cx18; refine kl (hPk) ?_) | (apply cx12; refine kl (hRa) ?_) | (apply cx20; refine kl (hS) ?_) | refine And.intro ⟨by omega, by omega⟩ (Exists.intro _ (And.intro (rdI (i := k) (by omega) (by omega)) ?_)) | refine And.intro ⟨by omega, by omega⟩ (Exists.intro _ (And.intro (rdI (i := i) (by omega) (by omega)) ?_)) | refine k0 ?_ | refine jA fun _ => ?_ | refine jB fun _ => ?_ | refine kC (fun _ => ?_) fun _ => ?_ | (apply cx8; refine kl tx8 ?_) | (apply cx9; refine kl tx9 ?_) | (apply cx13; refine kl tx13 ?_) | (apply cx15; refine kl tx15 ?_) | (apply cx16; refine kl tx16 ?_) | (apply cx17; refine kl tx17 ?_) | refine jst ?_ | exact ⟨rfl, rfl⟩ | exact jV | fail))
              refine ⟨⟨i + 1, by omega⟩, by simp only; omega, ?_⟩
              exact jw [4]
            · have hS : T 20 [aE (pkR (ppN s[k]) m[k][i]), aE (pkR (ppN s[k]) row)] [vB false] [none, none] := by
                have h := tx20 (a := pkR (ppN s[k]) m[k][i]) (b := (pkR (ppN s[k]) row))
                rwa [show smR _ (pkR (ppN s[k]) row) = false from bOf_n he] at h
              have hR2 : T 12 [aE s, .val true [slE false g], aI k, aE (pkR (ppN s[k]) m[k][i])] [vE m[k][i], vB true] [none, none, none, none] := by
                have h := tx12 (s := s) (m := g) (t := k) (key := pkR (ppN s[k]) m[k][i])
                rwa [p3 _ (List.getElem_mem hlt) he] at h
              have hS2 : T 20 [aE m[k][i], aE m[k][i]] [vB true] [none, none] := by
                have h := tx20 (a := m[k][i]) (b := m[k][i])
                rwa [show smR m[k][i] m[k][i] = true from bOf_y rfl] at h
              repeat' ((conv => whnf); (first | (apply cx19; refine kl (tx19 (d := s[k])) ?_) | (apply cx18; refine kl (tx18 (l := ppN s[k]) (r := m[k][i])) ?_) | (apply cx12; refine kl (hR2) ?_) | (apply cx20; refine kl (hS) ?_) | (apply cx20; refine kl (hS2) ?_) | refine And.intro ⟨by omega, by omega⟩ (Exists.intro _ (And.intro (rdI (i := k) (by omega) (by omega)) ?_)) | refine And.intro ⟨by omega, by omega⟩ (Exists.intro _ (And.intro (rdI (i := i) (by omega) (by omega)) ?_)) | refine k0 ?_ | refine jA fun _ => ?_ | refine jB fun _ => ?_ | refine kC (fun _ => ?_) fun _ => ?_ | (apply cx8; refine kl tx8 ?_) | (apply cx9; refine kl tx9 ?_) | (apply cx13; refine kl tx13 ?_) | (apply cx15; refine kl tx15 ?_) | (apply cx16; refine kl tx16 ?_) | (apply cx17; refine kl tx17 ?_) | refine jst ?_ | exact ⟨rfl, rfl⟩ | exact jV | fail))
              refine ⟨⟨i + 1, by omega⟩, by simp only; omega, ?_⟩
              exact jw [4]
          · repeat' ((conv => whnf); (first | (apply cx17; refine kl (hMg) ?_) | refine k0 ?_ | refine jA fun _ => ?_ | refine jB fun _ => ?_ | refine kC (fun _ => ?_) fun _ => ?_ | (apply cx8; refine kl tx8 ?_) | (apply cx9; refine kl tx9 ?_) | (apply cx13; refine kl tx13 ?_) | (apply cx15; refine kl tx15 ?_) | (apply cx16; refine kl tx16 ?_) | (apply cx19; refine kl tx19 ?_) | (apply cx18; refine kl tx18 ?_) | (apply cx12; refine kl tx12 ?_) | (apply cx20; refine kl tx20 ?_) | refine jst ?_ | exact ⟨rfl, rfl⟩ | exact jV | fail))
    · have hgm := her2 hc
      subst hgm
      repeat' ((conv => whnf); (first | (apply cx8; refine kl (hB) ?_) | (apply cx9; refine kl (hD) ?_) | (apply cx13; refine kl (hIm) ?_) | (apply cx15; refine kl (hSp) ?_) | (apply cx16; refine kl (tx16 (m := g)) ?_) | (apply cx17; refine kl (hMo) ?_) | refine k0 ?_ | refine jA fun _ => ?_ | refine jB fun _ => ?_ | refine kC (fun _ => ?_) fun _ => ?_ | (apply cx19; refine kl tx19 ?_) | (apply cx18; refine kl tx18 ?_) | (apply cx12; refine kl tx12 ?_) | (apply cx20; refine kl tx20 ?_) | refine jst ?_ | exact ⟨rfl, rfl⟩ | exact jV | fail))
end

section
open Go Go.RowKit Go.IntWalk

open Enc (sz cs)

attribute [local irreducible] IntKind.wrap

theorem raN_len {s : List Df} {m : Tbs} {t : Int} {key : List Vl} (h : zMdb m ≤ 2000000) : (raN s m t key).1.length ≤ 10000000 := by
  obtain ⟨z1, z2⟩ := zMdb_b h
  unfold raN
  split
  · rename_i q
    split
    · rw [List.getD_eq_getElem?_getD]
      by_cases hj : (atN (ppN (s[t.toNat]'q.2.2.1)) (m[t.toNat]'q.2.2.2) key).toNat < (m[t.toNat]'q.2.2.2).length
      · rw [List.getElem?_eq_getElem hj]
        have := (z2 _ q.2.2.2).2 _ hj
        simp only [Option.getD_some]; omega
      · rw [List.getElem?_eq_none (by omega)]; simp
    · simp
  · simp

attribute [local irreducible] fbN cdN moS moI apN ldC laC dsC tdC taC opC1 nwC raN ppN pkR mdN rwC

theorem laC_z {b : List UInt8} : zSc (laC (nwC b)).1 ≤ 404 := laC_b.z

theorem dk_all {b : List UInt8} : zSc (dkS b).1 ≤ 404 ∧ zMdb (dkM b).1 ≤ 30257 ∧ (drK b).length ≤ 2000000 := by
  have hsb := dsC_b (c := nwC b)
  have hsz := szC_b (b := b) (most := 12) (by decide)
  refine ⟨hsb.z, taC_z hsb (by omega) (by omega), ?_⟩
  have hp : 0 < (dkS b).1.length := hsb.pos
  unfold drK
  rw [gdf hp, pkR_len]
  have hd := hsb.df _ (List.getElem_mem hp)
  have hpl := ppN_len (d := (dkS b).1[0])
  have := hd.prim
  omega

theorem mdN_r {s : List Df} : ∀ i (h : i < (mdN s).length), (mdN s)[i].length = 0 := by
  intro i h
  by_cases q : fbN s = -1
  · simp only [mdN_y q, List.getElem_replicate, List.length_nil]
  · simp only [mdN_n q] at h; exact absurd h (by simp)

set_option maxHeartbeats 2000000 in
set_option maxRecDepth 100000 in
theorem tx5 {b : List UInt8} (hb : b.length ≤ 140737488355327 := by first | assumption | omega | (simp; done) | (simp; omega)) : T 5 [aE b] [vB true] [none] := by
  refine w_call md [] Tryz.func5 rfl ?_
  by_cases hz : 1048576 < b.length
  · have hB : T 8 [aE b] [vB true] [none] := by
      have h := tx8 (b := b)
      rwa [decide_eq_true (by omega)] at h
    repeat' ((conv => whnf); (first | (apply cx8; refine kl (hB) ?_) | refine k0 ?_ | refine jA fun _ => ?_ | refine jB fun _ => ?_ | refine kC (fun _ => ?_) fun _ => ?_ | (apply cx21; refine kl tx21 ?_) | (apply cx22; refine kl tx22 ?_) | (apply cx23; refine kl tx23 ?_) | (apply cx24; refine kl tx24 ?_) | (apply cx12; refine kl tx12 ?_) | (apply cx25; refine kl tx25 ?_) | (apply cx17; refine kl tx17 ?_) | (apply cx26; refine kl tx26 ?_) | (apply cx27; refine kl tx27 ?_) | (apply cx28; refine kl tx28 ?_) | (apply cx29; refine kl tx29 ?_) | refine jst ?_ | exact ⟨rfl, rfl⟩ | exact jV | fail))
  · have hB : T 8 [aE b] [vB false] [none] := by
      have h := tx8 (b := b)
      rwa [decide_eq_false (by omega)] at h
    have hD := tx21 (b := b) (by omega)
    have hN := tx22 (b := b) (by omega)
    have hR := tx24 (b := b) (by omega)
    have hP := dk_all (b := b)
    have hz2 := laC_z (b := b)
    generalize (laC (nwC b)).1 = q at hN hz2
    generalize (dkS b).1 = s at hD hP hR
    generalize (dkM b).1 = m at hD hP hR
    generalize (drT b).1 = t at hR
    generalize drK b = key at hP hR
    obtain ⟨hs, hm, hk⟩ := hP
    have hMi : T 17 [aE s, .val true [slE false m]] [vB (moS s m)] [none, none] := by
      have h := tx17 (s := s) (m := m)
      rwa [moIS] at h
    have hMs : T 26 [aE s, .val true [slE false m]] [vB (moS s m)] [none, none] := tx26
    obtain ⟨r, th, hra⟩ : ∃ r th, raN s m t key = (r, th) := ⟨_, _, rfl⟩
    have hRi : T 12 [aE s, .val true [slE false m], aI t, aE key] [vE r, vB th] [none, none, none, none] := by
      have h := tx12 (s := s) (m := m) (t := t) (key := key)
      rwa [hra] at h
    have hRs : T 25 [aE s, .val true [slE false m], aI t, aE key] [vE r, vB th] [none, none, none, none] := by
      have h := tx25 (s := s) (m := m) (t := t) (key := key)
      rwa [hra] at h
    have hrl : r.length ≤ 10000000 := by
      have h := raN_len (s := s) (m := m) (t := t) (key := key) (by omega)
      rw [hra] at h
      exact h
    have hNi := tx23 (s := q)
    have hNs := tx27 (s := q)
    have hm0 := mdN_r (s := q)
    have hnz := mdN_z0 (s := q)
    have hF := tx29 (s := q)
    have ezq : zSc q = q.length + cnt zDf q := rfl
    have hmn : fbN q = -1 → T 17 [aE q, .val true [slE false (mdN q)]] [vB true] [none, none] := fun h => by
      have h9 := tx17 (s := q) (m := mdN q)
      rwa [moIS, mo_new h] at h9
    have hnl := mdN_len (s := q)
    generalize mdN q = n at *
    generalize moS s m = v at *
    cases v
    all_goals
      cases th
      all_goals
        repeat' ((conv => whnf); (first | (apply cx8; refine kl (hB) ?_) | (apply cx21; refine kl (hD) ?_) | (apply cx22; refine kl (hN) ?_) | (apply cx24; refine kl (hR) ?_) | (apply cx23; refine kl (hNi) ?_) | refine bstep ((w_frz 2 n).trans (w_lkF 3 2 [] n [] n.length 1 rfl (h1 := rfl))) ?_ | (apply cx12; refine kl (hRi) ?_) | (apply cx25; refine kl (hRs) ?_) | refine k0 ?_ | refine jA fun _ => ?_ | refine jB fun _ => ?_ | refine kC (fun _ => ?_) fun _ => ?_ | (apply cx17; refine kl tx17 ?_) | (apply cx26; refine kl tx26 ?_) | (apply cx27; refine kl tx27 ?_) | (apply cx28; refine kl tx28 ?_) | (apply cx29; refine kl tx29 ?_) | refine jst ?_ | exact ⟨rfl, rfl⟩ | exact jV | fail))
        conv => whnf
        refine loopk (ι := Nat) (fun i => i ≤ n.length) (fun i => n.length - i) (0) [3, 4, 5, 6, 11, 12, 13, 14] (fun i => [(15, .v false [i6 i])]) [none, none, none, none, none, none, none, none] ?_
        refine ⟨Nat.zero_le _, ?_, fun i hi => ?_⟩
        · exact jw []
        · by_cases hlt : i < n.length
          · have h0 := hm0 i hlt
            repeat' ((conv => whnf); (first | refine And.intro ⟨by omega, by omega⟩ (Exists.intro _ (And.intro (rdI (i := i) (by omega) (by omega)) ?_)) | refine k0 ?_ | refine jA fun _ => ?_ | refine jB fun _ => ?_ | refine kC (fun _ => ?_) fun _ => ?_ | (apply cx8; refine kl tx8 ?_) | (apply cx21; refine kl tx21 ?_) | (apply cx22; refine kl tx22 ?_) | (apply cx23; refine kl tx23 ?_) | (apply cx24; refine kl tx24 ?_) | (apply cx12; refine kl tx12 ?_) | (apply cx25; refine kl tx25 ?_) | (apply cx17; refine kl tx17 ?_) | (apply cx26; refine kl tx26 ?_) | (apply cx27; refine kl tx27 ?_) | (apply cx28; refine kl tx28 ?_) | (apply cx29; refine kl tx29 ?_) | refine jst ?_ | exact ⟨rfl, rfl⟩ | exact jV | fail))
            refine ⟨⟨i + 1, by omega⟩, by simp only; omega, ?_⟩
            exact jw []
          · by_cases hfb : fbN q = -1
            · have hQ := hmn hfb
              repeat' ((conv => whnf); (first | (apply cx17; refine kl (hMi) ?_) | (apply cx17; refine kl (hQ) ?_) | (apply cx26; refine kl (hMs) ?_) | (apply cx27; refine kl (hNs) ?_) | (apply cx28; refine kl (tx28 (l := r)) ?_) | (apply cx29; refine kl (hF) ?_) | refine k0 ?_ | refine jA fun _ => ?_ | refine jB fun _ => ?_ | refine kC (fun _ => ?_) fun _ => ?_ | (apply cx8; refine kl tx8 ?_) | (apply cx21; refine kl tx21 ?_) | (apply cx22; refine kl tx22 ?_) | (apply cx23; refine kl tx23 ?_) | (apply cx24; refine kl tx24 ?_) | (apply cx12; refine kl tx12 ?_) | (apply cx25; refine kl tx25 ?_) | refine jst ?_ | exact ⟨rfl, rfl⟩ | exact jV | fail))
            · repeat' ((conv => whnf); (first | (apply cx17; refine kl (hMi) ?_) | (apply cx26; refine kl (hMs) ?_) | (apply cx27; refine kl (hNs) ?_) | (apply cx28; refine kl (tx28 (l := r)) ?_) | (apply cx29; refine kl (hF) ?_) | refine k0 ?_ | refine jA fun _ => ?_ | refine jB fun _ => ?_ | refine kC (fun _ => ?_) fun _ => ?_ | (apply cx8; refine kl tx8 ?_) | (apply cx21; refine kl tx21 ?_) | (apply cx22; refine kl tx22 ?_) | (apply cx23; refine kl tx23 ?_) | (apply cx24; refine kl tx24 ?_) | (apply cx12; refine kl tx12 ?_) | (apply cx25; refine kl tx25 ?_) | refine jst ?_ | exact ⟨rfl, rfl⟩ | exact jV | fail))
end

end Go.Proofs.YtddikflnjloagaaGreatDoor
