/- Functions of the program, each with what it gives back. -/
import Derived.Test.YtkimclpagokeaaaGreatDoorKe
import Derived.Test.YtkimclpagokeaaaGreatDoorChecked
import Derived.IntWalk
import Derived.Test.YtkimclpagokeaaaGreatDoorMl
namespace Go.Proofs.YtkimclpagokeaaaGreatDoor
open Go Go.RowKit Go.IntWalk
open Enc (sz cs)
attribute [local irreducible] IntKind.wrap

attribute [local irreducible] ptsO ptO pkR ppN bOf fstI fbN cdN
noncomputable abbrev hxN (s : List Df) (t i : Int) : Bool := bOf (fbN s = -1 ∧ ∃ h : 0 ≤ t ∧ t.toNat < s.length, inB i (-1) (((s[t.toNat]'h.2).idx.length : Int) - 1) = true)

set_option maxRecDepth 100000 in
theorem tx28 {s : List Df} {t i : Int} (hs : zSc s ≤ 2000000 := by first | assumption | omega | (simp; done) | (simp; omega)) : T 28 [aE s, aI t, aI i] [vB (hxN s t i)] [none, none, none] := by
  refine w_call md [] Tryz.func28 rfl ?_
  obtain ⟨q1, q2⟩ := zSc_b hs
  by_cases h : fbN s = -1
  · have hF : T 50 [aE s] [vI (-1)] [none] := by
      have h2 := tx50 (s := s)
      rwa [h] at h2
    by_cases ht : inB t 0 ((s.length : Int) - 1) = true
    · have hb := inB_iff.1 ht
      have hI : T 51 [aI t, aI 0, aI ((s.length : Int) - 1)] [vB true] [none, none, none] := by
        have h := tx51 (n := t) (l := 0) (h := (s.length : Int) - 1)
        rwa [ht] at h
      have h2 : t.toNat < s.length := by omega
      have hz := zDf_b (q2 _ h2)
      have e : hxN s t i = inB i (-1) ((s[t.toNat].idx.length : Int) - 1) := by
        cases hv : inB i (-1) ((s[t.toNat].idx.length : Int) - 1) with
        | true => exact bOf_y ⟨h, ⟨by omega, h2⟩, hv⟩
        | false =>
          refine bOf_n fun q => ?_
          obtain ⟨_, _, q⟩ := q
          exact bft hv q
      have hq := hz.2.2.2.1
      clear hz
      rw [e]
      repeat' ((conv => whnf); (first | (apply cx50; refine kl (hF) ?_) | (apply cx51; refine kl (hI) ?_) | refine And.intro ⟨by omega, by omega⟩ (Exists.intro _ (And.intro (rdI (i := t.toNat) (by omega) (by omega)) ?_)) | (apply cx51; refine kl (tx51 (n := i) (l := -1) (h := (s[t.toNat].idx.length : Int) - 1)) ?_) | refine k0 ?_ | refine jA fun _ => ?_ | refine jB fun _ => ?_ | refine kC (fun _ => ?_) fun _ => ?_ | refine jS ?_ | refine jI ?_ | (apply cx50; refine kl tx50 ?_) | (apply cx51; refine kl tx51 ?_) | refine jD ?_ | refine ⟨snc, _, snr, ?_⟩ | refine ⟨⟨Nat.le_refl _, rfl⟩, [], rfl, ?_⟩ | refine And.intro ⟨rfl, rfl, by decide, rfl⟩ ?_ | refine jP ?_ | refine jO ?_ | refine jX ?_ | refine jb jr ?_ | refine jb ofs ?_ | refine ko jc ?_ | refine ko jp ?_ | refine jM ?_ | refine kr ?_ | refine ko rfl ?_ | refine And.intro (cs_shal _) ?_ | refine And.intro (rfl : List.all _ _ = true) ?_ | refine And.intro ⟨rfl, (rfl : List.all _ _ = true)⟩ ?_ | exact ⟨rfl, rfl⟩ | exact jV | fail))
      all_goals first | exact ⟨vB1 (by assumption), rfl⟩ | exact ⟨vB0 (by assumption), rfl⟩
    · have hI : T 51 [aI t, aI 0, aI ((s.length : Int) - 1)] [vB false] [none, none, none] := by
        have h := tx51 (n := t) (l := 0) (h := (s.length : Int) - 1)
        rwa [bNt ht] at h
      repeat' ((conv => whnf); (first | (apply cx50; refine kl (hF) ?_) | (apply cx51; refine kl (hI) ?_) | refine k0 ?_ | refine jA fun _ => ?_ | refine jB fun _ => ?_ | refine kC (fun _ => ?_) fun _ => ?_ | refine jS ?_ | refine jI ?_ | (apply cx50; refine kl tx50 ?_) | (apply cx51; refine kl tx51 ?_) | refine jD ?_ | refine ⟨snc, _, snr, ?_⟩ | refine ⟨⟨Nat.le_refl _, rfl⟩, [], rfl, ?_⟩ | refine And.intro ⟨rfl, rfl, by decide, rfl⟩ ?_ | refine jP ?_ | refine jO ?_ | refine jX ?_ | refine jb jr ?_ | refine jb ofs ?_ | refine ko jc ?_ | refine ko jp ?_ | refine jM ?_ | refine kr ?_ | refine ko rfl ?_ | refine And.intro (cs_shal _) ?_ | refine And.intro (rfl : List.all _ _ = true) ?_ | refine And.intro ⟨rfl, (rfl : List.all _ _ = true)⟩ ?_ | exact ⟨rfl, rfl⟩ | exact jV | fail))
      exact ⟨vB0 (bOf_n fun q => by
        obtain ⟨_, hq, _⟩ := q
        exact ht (inB_iff.2 (by omega))), rfl⟩
  · repeat' ((conv => whnf); (first | (apply cx50; refine kl (tx50 (s := s)) ?_) | refine k0 ?_ | refine jA fun _ => ?_ | refine jB fun _ => ?_ | refine kC (fun _ => ?_) fun _ => ?_ | refine jS ?_ | refine jI ?_ | (apply cx50; refine kl tx50 ?_) | (apply cx51; refine kl tx51 ?_) | refine jD ?_ | refine ⟨snc, _, snr, ?_⟩ | refine ⟨⟨Nat.le_refl _, rfl⟩, [], rfl, ?_⟩ | refine And.intro ⟨rfl, rfl, by decide, rfl⟩ ?_ | refine jP ?_ | refine jO ?_ | refine jX ?_ | refine jb jr ?_ | refine jb ofs ?_ | refine ko jc ?_ | refine ko jp ?_ | refine jM ?_ | refine kr ?_ | refine ko rfl ?_ | refine And.intro (cs_shal _) ?_ | refine And.intro (rfl : List.all _ _ = true) ?_ | refine And.intro ⟨rfl, (rfl : List.all _ _ = true)⟩ ?_ | exact ⟨rfl, rfl⟩ | exact jV | fail))
    exact ⟨vB0 (bOf_n fun q => h q.1), rfl⟩

theorem cx28 {P : Program} {X : FuncId → List Arg → List (Bool × List Cell) → List (Option (List Cell)) → Prop} {a : List Arg} {Q : List (Bool × List Cell) → List (Option (List Cell)) → Prop} (h : ∃ b vals outs, a = b ∧ D P X (.call 28 b vals outs) ∧ Q vals outs) : CallS P X 28 a Q := ⟨h⟩

theorem hx_y {s : List Df} {k : Nat} (h : fbN s = -1) (h2 : k < s.length) : hxN s k (-1) = true :=
  bOf_y ⟨h, ⟨by omega, by simpa using h2⟩, inB_iff.2 (by omega)⟩
theorem hx_n {s : List Df} {t : Int} (h : ¬ (fbN s = -1 ∧ 0 ≤ t ∧ t.toNat < s.length)) : hxN s t (-1) = false := bOf_n fun q => by
  obtain ⟨h1, h2, _⟩ := q
  exact h ⟨h1, h2⟩
/-- The place of a key's row. -/
noncomputable def atN (plan : List Prt) (rows : List (List Vl)) (key : List Vl) : Int := fstI rows.length fun i => ∃ h : i < rows.length, pkR plan rows[i] = key
theorem atN_lt {plan : List Prt} {rows : List (List Vl)} {key : List Vl} {j : Nat} (h : atN plan rows key = j) : j < rows.length := by
  have key2 : fstI rows.length (fun i => ∃ h : i < rows.length, pkR plan rows[i] = key) = -1 ∨ ∃ i, i < rows.length ∧ fstI rows.length (fun i => ∃ h : i < rows.length, pkR plan rows[i] = key) = (i : Int) := by
    unfold fstI
    split
    · rename_i hx
      exact .inr ⟨_, (Classical.choose_spec hx).1, rfl⟩
    · exact .inl rfl
  unfold atN at h
  rcases key2 with e | ⟨i, hi, e⟩
  · rw [e] at h; omega
  · rw [e] at h; omega
theorem zMdb_b {m : Tbs} (h : zMdb m ≤ 2000000) : m.length ≤ 2000000 ∧ ∀ k (hk : k < m.length), m[k].length ≤ 2000000 ∧ ∀ j (hj : j < m[k].length), m[k][j].length ≤ 2000000 := by
  have h0 : zMdb m = m.length + cnt zTab m := rfl
  refine ⟨by omega, fun k hk => ?_⟩
  have h3 := cnt_mem (c := zTab) (List.getElem_mem hk)
  have e3 : zTab m[k] = m[k].length + cnt zRow m[k] := rfl
  refine ⟨by omega, fun j hj => ?_⟩
  have h4 := cnt_mem (c := zRow) (List.getElem_mem hj)
  have e4 : zRow m[k][j] = m[k][j].length + cnt zVl m[k][j] := rfl
  omega

set_option maxHeartbeats 2000000 in
set_option maxRecDepth 100000 in
theorem tx29 {s : List Df} {m : Tbs} {t : Nat} {key : List Vl} (hs : zSc s ≤ 2000000 := by first | assumption | omega | (simp; done) | (simp; omega)) (hm : zMdb m ≤ 2000000 := by first | assumption | omega | (simp; done) | (simp; omega)) (hk : key.length ≤ 2000000 := by first | assumption | omega | (simp; done) | (simp; omega)) (h2 : t < s.length := by first | assumption | omega | (simp; done) | (simp; omega)) (h3 : t < m.length := by first | assumption | omega | (simp; done) | (simp; omega)) : T 29 [aE s, .val true [slE false m], aI t, aE key] [vI (atN (ppN s[t]) m[t] key)] [none, none, none, none] := by
  refine w_call md [] Tryz.func29 rfl ?_
  obtain ⟨q1, q2⟩ := zSc_b hs
  obtain ⟨z1, z2⟩ := zMdb_b hm
  have hd := q2 t h2
  obtain ⟨z3, z4⟩ := z2 t h3
  have hpl := ppN_len (d := s[t])
  repeat' ((conv => whnf); (first | (apply cx52; refine kl (tx52 (d := s[t])) ?_) | refine k0 ?_ | refine jA fun _ => ?_ | refine jB fun _ => ?_ | refine kC (fun _ => ?_) fun _ => ?_ | refine jS ?_ | refine jI ?_ | (apply cx52; refine kl tx52 ?_) | (apply cx54; refine kl tx54 ?_) | (apply cx53; refine kl tx53 ?_) | refine jD ?_ | refine ⟨snc, _, snr, ?_⟩ | refine ⟨⟨Nat.le_refl _, rfl⟩, [], rfl, ?_⟩ | refine And.intro ⟨rfl, rfl, by decide, rfl⟩ ?_ | refine jP ?_ | refine jO ?_ | refine jX ?_ | refine jb jr ?_ | refine jb ofs ?_ | refine ko jc ?_ | refine ko jp ?_ | refine jM ?_ | refine kr ?_ | refine ko rfl ?_ | refine And.intro (cs_shal _) ?_ | refine And.intro (rfl : List.all _ _ = true) ?_ | refine And.intro ⟨rfl, (rfl : List.all _ _ = true)⟩ ?_ | exact ⟨rfl, rfl⟩ | exact jV | fail))
  conv => whnf
  refine loopk (ι := Nat) (fun i => i ≤ m[t].length ∧ ∀ j (h : j < m[t].length), j < i → pkR (ppN s[t]) m[t][j] ≠ key) (fun i => m[t].length - i) (0) [3, 9, 22, 23] (fun i => [(24, .v false [i6 i])]) [none, none, none, none, none, none] ?_
  refine ⟨⟨by omega, by intros; omega⟩, ?_, fun a ha => ?_⟩
  · exact jw []
  · repeat' ((conv => whnf); (first | refine k0 ?_ | refine jS ?_ | refine jI ?_ | (apply cx52; refine kl tx52 ?_) | (apply cx54; refine kl tx54 ?_) | (apply cx53; refine kl tx53 ?_) | refine jD ?_ | refine ⟨snc, _, snr, ?_⟩ | refine ⟨⟨Nat.le_refl _, rfl⟩, [], rfl, ?_⟩ | refine And.intro ⟨rfl, rfl, by decide, rfl⟩ ?_ | refine jP ?_ | refine jO ?_ | refine jX ?_ | refine jb jr ?_ | refine jb ofs ?_ | refine ko jc ?_ | refine ko jp ?_ | refine jM ?_ | refine kr ?_ | refine ko rfl ?_ | refine And.intro (cs_shal _) ?_ | refine And.intro (rfl : List.all _ _ = true) ?_ | refine And.intro ⟨rfl, (rfl : List.all _ _ = true)⟩ ?_ | exact ⟨rfl, rfl⟩ | exact jV | fail))
    conv => whnf
    refine ⟨fun hlt => ?_, fun hge => ?_⟩
    · have ha2 : a < m[t].length := by omega
      have hz := z4 a ha2
      have hpk := pkR_len (l := ppN s[t]) (r := m[t][a])
      by_cases e : pkR (ppN s[t]) m[t][a] = key
      · have hS : T 53 [aE (pkR (ppN s[t]) m[t][a]), aE key] [vB true] [none, none] := by
          have h9 := tx53 (a := pkR (ppN s[t]) m[t][a]) (b := key)
          rwa [show smR _ key = true from bOf_y e] at h9
        repeat' ((conv => whnf); (first | (apply cx54; refine kl (tx54 (l := ppN s[t]) (r := m[t][a])) ?_) | (apply cx53; refine kl (hS) ?_) | refine k0 ?_ | refine jA fun _ => ?_ | refine jB fun _ => ?_ | refine kC (fun _ => ?_) fun _ => ?_ | refine jS ?_ | refine jI ?_ | (apply cx52; refine kl tx52 ?_) | (apply cx54; refine kl tx54 ?_) | (apply cx53; refine kl tx53 ?_) | refine jD ?_ | refine ⟨snc, _, snr, ?_⟩ | refine ⟨⟨Nat.le_refl _, rfl⟩, [], rfl, ?_⟩ | refine And.intro ⟨rfl, rfl, by decide, rfl⟩ ?_ | refine jP ?_ | refine jO ?_ | refine jX ?_ | refine jb jr ?_ | refine jb ofs ?_ | refine ko jc ?_ | refine ko jp ?_ | refine jM ?_ | refine kr ?_ | refine ko rfl ?_ | refine And.intro (cs_shal _) ?_ | refine And.intro (rfl : List.all _ _ = true) ?_ | refine And.intro ⟨rfl, (rfl : List.all _ _ = true)⟩ ?_ | exact ⟨rfl, rfl⟩ | exact jV | fail))
        exact ⟨vI1 (fstI_at ha2 ⟨ha2, e⟩ (fun j hj q => by
          obtain ⟨hq, q⟩ := q
          exact ha.2 j hq hj q)), rfl⟩
      · have hS : T 53 [aE (pkR (ppN s[t]) m[t][a]), aE key] [vB false] [none, none] := by
          have h9 := tx53 (a := pkR (ppN s[t]) m[t][a]) (b := key)
          rwa [show smR _ key = false from bOf_n e] at h9
        repeat' ((conv => whnf); (first | (apply cx54; refine kl (tx54 (l := ppN s[t]) (r := m[t][a])) ?_) | (apply cx53; refine kl (hS) ?_) | refine k0 ?_ | refine jA fun _ => ?_ | refine jB fun _ => ?_ | refine kC (fun _ => ?_) fun _ => ?_ | refine jS ?_ | refine jI ?_ | (apply cx52; refine kl tx52 ?_) | (apply cx54; refine kl tx54 ?_) | (apply cx53; refine kl tx53 ?_) | refine jD ?_ | refine ⟨snc, _, snr, ?_⟩ | refine ⟨⟨Nat.le_refl _, rfl⟩, [], rfl, ?_⟩ | refine And.intro ⟨rfl, rfl, by decide, rfl⟩ ?_ | refine jP ?_ | refine jO ?_ | refine jX ?_ | refine jb jr ?_ | refine jb ofs ?_ | refine ko jc ?_ | refine ko jp ?_ | refine jM ?_ | refine kr ?_ | refine ko rfl ?_ | refine And.intro (cs_shal _) ?_ | refine And.intro (rfl : List.all _ _ = true) ?_ | refine And.intro ⟨rfl, (rfl : List.all _ _ = true)⟩ ?_ | exact ⟨rfl, rfl⟩ | exact jV | fail))
        refine ⟨⟨a + 1, by omega, all_suc ha.2 ha2 e⟩, by simp only; omega, ?_⟩
        exact jw []
    · obtain rfl : a = m[t].length := by omega
      repeat' ((conv => whnf); (first | refine k0 ?_ | refine jA fun _ => ?_ | refine jB fun _ => ?_ | refine kC (fun _ => ?_) fun _ => ?_ | refine jS ?_ | refine jI ?_ | (apply cx52; refine kl tx52 ?_) | (apply cx54; refine kl tx54 ?_) | (apply cx53; refine kl tx53 ?_) | refine jD ?_ | refine ⟨snc, _, snr, ?_⟩ | refine ⟨⟨Nat.le_refl _, rfl⟩, [], rfl, ?_⟩ | refine And.intro ⟨rfl, rfl, by decide, rfl⟩ ?_ | refine jP ?_ | refine jO ?_ | refine jX ?_ | refine jb jr ?_ | refine jb ofs ?_ | refine ko jc ?_ | refine ko jp ?_ | refine jM ?_ | refine kr ?_ | refine ko rfl ?_ | refine And.intro (cs_shal _) ?_ | refine And.intro (rfl : List.all _ _ = true) ?_ | refine And.intro ⟨rfl, (rfl : List.all _ _ = true)⟩ ?_ | exact ⟨rfl, rfl⟩ | exact jV | fail))
      exact ⟨vI1 (fstI_no (fun j hj q => by
        obtain ⟨hq, q⟩ := q
        exact ha.2 j hq hj q)), rfl⟩

theorem cx29 {P : Program} {X : FuncId → List Arg → List (Bool × List Cell) → List (Option (List Cell)) → Prop} {a : List Arg} {Q : List (Bool × List Cell) → List (Option (List Cell)) → Prop} (h : ∃ b vals outs, a = b ∧ D P X (.call 29 b vals outs) ∧ Q vals outs) : CallS P X 29 a Q := ⟨h⟩

set_option maxRecDepth 100000 in
theorem tx45 {d : Df} {r : List Vl} (hd : zDf d ≤ 2000000 := by first | assumption | omega | (simp; done) | (simp; omega)) (hr : r.length ≤ 2000000 := by first | assumption | omega | (simp; done) | (simp; omega)) : T 45 [.val true (dfC false d), aE r] [vE (pkR (ppN d) r)] [none, none] := by
  refine w_call md [] Tryz.func45 rfl ?_
  have hpl := ppN_len (d := d)
  repeat' ((conv => whnf); (first | (apply cx68; refine kl (tx68 (d := d)) ?_) | (apply cx67; refine kl (tx67 (l := ppN d) (r := r)) ?_) | refine k0 ?_ | refine jA fun _ => ?_ | refine jB fun _ => ?_ | refine kC (fun _ => ?_) fun _ => ?_ | refine jS ?_ | refine jI ?_ | (apply cx68; refine kl tx68 ?_) | (apply cx67; refine kl tx67 ?_) | refine jD ?_ | refine ⟨snc, _, snr, ?_⟩ | refine ⟨⟨Nat.le_refl _, rfl⟩, [], rfl, ?_⟩ | refine And.intro ⟨rfl, rfl, by decide, rfl⟩ ?_ | refine jP ?_ | refine jO ?_ | refine jX ?_ | refine jb jr ?_ | refine jb ofs ?_ | refine ko jc ?_ | refine ko jp ?_ | refine jM ?_ | refine kr ?_ | refine ko rfl ?_ | refine And.intro (cs_shal _) ?_ | refine And.intro (rfl : List.all _ _ = true) ?_ | refine And.intro ⟨rfl, (rfl : List.all _ _ = true)⟩ ?_ | exact ⟨rfl, rfl⟩ | exact jV | fail))

theorem cx45 {P : Program} {X : FuncId → List Arg → List (Bool × List Cell) → List (Option (List Cell)) → Prop} {a : List Arg} {Q : List (Bool × List Cell) → List (Option (List Cell)) → Prop} (h : ∃ b vals outs, a = b ∧ D P X (.call 45 b vals outs) ∧ Q vals outs) : CallS P X 45 a Q := ⟨h⟩

set_option maxHeartbeats 2000000 in
set_option maxRecDepth 100000 in
theorem tx24 {d : Df} {rows : List (List Vl)} {key : List Vl} (hd : zDf d ≤ 2000000 := by first | assumption | omega | (simp; done) | (simp; omega)) (hm : rows.length ≤ 2000000 ∧ ∀ j (hj : j < rows.length), rows[j].length ≤ 2000000 := by first | assumption | omega | (simp; done) | (simp; omega)) (hk : key.length ≤ 2000000 := by first | assumption | omega | (simp; done) | (simp; omega)) : T 24 [.val true (dfC false d), aE rows, aE key] [vI (atN (ppN d) rows key)] [none, none, none] := by
  refine w_call md [] Tryz.func24 rfl ?_
  obtain ⟨z3, z4⟩ := hm
  have hpl := ppN_len (d := d)
  repeat' ((conv => whnf); (first | refine k0 ?_ | refine jA fun _ => ?_ | refine jB fun _ => ?_ | refine kC (fun _ => ?_) fun _ => ?_ | refine jS ?_ | refine jI ?_ | (apply cx45; refine kl tx45 ?_) | (apply cx44; refine kl tx44 ?_) | refine jD ?_ | refine ⟨snc, _, snr, ?_⟩ | refine ⟨⟨Nat.le_refl _, rfl⟩, [], rfl, ?_⟩ | refine And.intro ⟨rfl, rfl, by decide, rfl⟩ ?_ | refine jP ?_ | refine jO ?_ | refine jX ?_ | refine jb jr ?_ | refine jb ofs ?_ | refine ko jc ?_ | refine ko jp ?_ | refine jM ?_ | refine kr ?_ | refine ko rfl ?_ | refine And.intro (cs_shal _) ?_ | refine And.intro (rfl : List.all _ _ = true) ?_ | refine And.intro ⟨rfl, (rfl : List.all _ _ = true)⟩ ?_ | exact ⟨rfl, rfl⟩ | exact jV | fail))
  conv => whnf
  refine loopk (ι := Nat) (fun i => i ≤ rows.length ∧ ∀ j (h : j < rows.length), j < i → pkR (ppN d) rows[j] ≠ key) (fun i => rows.length - i) (0) [1, 2, 3] (fun i => [(7, .v false [i6 i])]) [none, none, none, none] ?_
  refine ⟨⟨by omega, by intros; omega⟩, ?_, fun a ha => ?_⟩
  · exact jw []
  · repeat' ((conv => whnf); (first | refine k0 ?_ | refine jS ?_ | refine jI ?_ | (apply cx45; refine kl tx45 ?_) | (apply cx44; refine kl tx44 ?_) | refine jD ?_ | refine ⟨snc, _, snr, ?_⟩ | refine ⟨⟨Nat.le_refl _, rfl⟩, [], rfl, ?_⟩ | refine And.intro ⟨rfl, rfl, by decide, rfl⟩ ?_ | refine jP ?_ | refine jO ?_ | refine jX ?_ | refine jb jr ?_ | refine jb ofs ?_ | refine ko jc ?_ | refine ko jp ?_ | refine jM ?_ | refine kr ?_ | refine ko rfl ?_ | refine And.intro (cs_shal _) ?_ | refine And.intro (rfl : List.all _ _ = true) ?_ | refine And.intro ⟨rfl, (rfl : List.all _ _ = true)⟩ ?_ | exact ⟨rfl, rfl⟩ | exact jV | fail))
    conv => whnf
    refine ⟨fun hlt => ?_, fun hge => ?_⟩
    · have ha2 : a < rows.length := by omega
      have hz := z4 a ha2
      have hpk := pkR_len (l := ppN d) (r := rows[a])
      by_cases e : pkR (ppN d) rows[a] = key
      · have hS : T 44 [aE (pkR (ppN d) rows[a]), aE key] [vB true] [none, none] := by
          have h9 := tx44 (a := pkR (ppN d) rows[a]) (b := key)
          rwa [show smR _ key = true from bOf_y e] at h9
        repeat' ((conv => whnf); (first | (apply cx45; refine kl (tx45 (d := d) (r := rows[a])) ?_) | (apply cx44; refine kl (hS) ?_) | refine k0 ?_ | refine jA fun _ => ?_ | refine jB fun _ => ?_ | refine kC (fun _ => ?_) fun _ => ?_ | refine jS ?_ | refine jI ?_ | (apply cx45; refine kl tx45 ?_) | (apply cx44; refine kl tx44 ?_) | refine jD ?_ | refine ⟨snc, _, snr, ?_⟩ | refine ⟨⟨Nat.le_refl _, rfl⟩, [], rfl, ?_⟩ | refine And.intro ⟨rfl, rfl, by decide, rfl⟩ ?_ | refine jP ?_ | refine jO ?_ | refine jX ?_ | refine jb jr ?_ | refine jb ofs ?_ | refine ko jc ?_ | refine ko jp ?_ | refine jM ?_ | refine kr ?_ | refine ko rfl ?_ | refine And.intro (cs_shal _) ?_ | refine And.intro (rfl : List.all _ _ = true) ?_ | refine And.intro ⟨rfl, (rfl : List.all _ _ = true)⟩ ?_ | exact ⟨rfl, rfl⟩ | exact jV | fail))
        exact ⟨vI1 (fstI_at ha2 ⟨ha2, e⟩ (fun j hj q => by
          obtain ⟨hq, q⟩ := q
          exact ha.2 j hq hj q)), rfl⟩
      · have hS : T 44 [aE (pkR (ppN d) rows[a]), aE key] [vB false] [none, none] := by
          have h9 := tx44 (a := pkR (ppN d) rows[a]) (b := key)
          rwa [show smR _ key = false from bOf_n e] at h9
        repeat' ((conv => whnf); (first | (apply cx45; refine kl (tx45 (d := d) (r := rows[a])) ?_) | (apply cx44; refine kl (hS) ?_) | refine k0 ?_ | refine jA fun _ => ?_ | refine jB fun _ => ?_ | refine kC (fun _ => ?_) fun _ => ?_ | refine jS ?_ | refine jI ?_ | (apply cx45; refine kl tx45 ?_) | (apply cx44; refine kl tx44 ?_) | refine jD ?_ | refine ⟨snc, _, snr, ?_⟩ | refine ⟨⟨Nat.le_refl _, rfl⟩, [], rfl, ?_⟩ | refine And.intro ⟨rfl, rfl, by decide, rfl⟩ ?_ | refine jP ?_ | refine jO ?_ | refine jX ?_ | refine jb jr ?_ | refine jb ofs ?_ | refine ko jc ?_ | refine ko jp ?_ | refine jM ?_ | refine kr ?_ | refine ko rfl ?_ | refine And.intro (cs_shal _) ?_ | refine And.intro (rfl : List.all _ _ = true) ?_ | refine And.intro ⟨rfl, (rfl : List.all _ _ = true)⟩ ?_ | exact ⟨rfl, rfl⟩ | exact jV | fail))
        refine ⟨⟨a + 1, by omega, all_suc ha.2 ha2 e⟩, by simp only; omega, ?_⟩
        exact jw []
    · obtain rfl : a = rows.length := by omega
      repeat' ((conv => whnf); (first | refine k0 ?_ | refine jA fun _ => ?_ | refine jB fun _ => ?_ | refine kC (fun _ => ?_) fun _ => ?_ | refine jS ?_ | refine jI ?_ | (apply cx45; refine kl tx45 ?_) | (apply cx44; refine kl tx44 ?_) | refine jD ?_ | refine ⟨snc, _, snr, ?_⟩ | refine ⟨⟨Nat.le_refl _, rfl⟩, [], rfl, ?_⟩ | refine And.intro ⟨rfl, rfl, by decide, rfl⟩ ?_ | refine jP ?_ | refine jO ?_ | refine jX ?_ | refine jb jr ?_ | refine jb ofs ?_ | refine ko jc ?_ | refine ko jp ?_ | refine jM ?_ | refine kr ?_ | refine ko rfl ?_ | refine And.intro (cs_shal _) ?_ | refine And.intro (rfl : List.all _ _ = true) ?_ | refine And.intro ⟨rfl, (rfl : List.all _ _ = true)⟩ ?_ | exact ⟨rfl, rfl⟩ | exact jV | fail))
      exact ⟨vI1 (fstI_no (fun j hj q => by
        obtain ⟨hq, q⟩ := q
        exact ha.2 j hq hj q)), rfl⟩

theorem cx24 {P : Program} {X : FuncId → List Arg → List (Bool × List Cell) → List (Option (List Cell)) → Prop} {a : List Arg} {Q : List (Bool × List Cell) → List (Option (List Cell)) → Prop} (h : ∃ b vals outs, a = b ∧ D P X (.call 24 b vals outs) ∧ Q vals outs) : CallS P X 24 a Q := ⟨h⟩

attribute [local irreducible] atN
/-- The row of a key. -/
noncomputable def raN (s : List Df) (m : Tbs) (t : Int) (key : List Vl) : List Vl × Bool :=
  if h : fbN s = -1 ∧ 0 ≤ t ∧ t.toNat < s.length ∧ t.toNat < m.length then
    if 0 ≤ atN (ppN (s[t.toNat]'h.2.2.1)) (m[t.toNat]'h.2.2.2) key then ((m[t.toNat]'h.2.2.2).getD (atN (ppN (s[t.toNat]'h.2.2.1)) (m[t.toNat]'h.2.2.2) key).toNat [], true) else ([], false)
  else ([], false)
theorem raN_n {s : List Df} {m : Tbs} {t : Int} {key : List Vl} (h : ¬ (fbN s = -1 ∧ 0 ≤ t ∧ t.toNat < s.length ∧ t.toNat < m.length)) : raN s m t key = ([], false) := dif_neg h
theorem raN_z {s : List Df} {m : Tbs} {k : Nat} {key : List Vl} (h : fbN s = -1) (h2 : k < s.length) (h3 : k < m.length) (hr : ¬ 0 ≤ atN (ppN s[k]) m[k] key) : raN s m k key = ([], false) := by
  unfold raN
  rw [dif_pos ⟨h, by omega, by simpa using h2, by simpa using h3⟩]
  simp only [Int.toNat_natCast]
  rw [if_neg hr]
theorem raN_y {s : List Df} {m : Tbs} {k j : Nat} {key : List Vl} (h : fbN s = -1) (h2 : k < s.length) (h3 : k < m.length) (hj : atN (ppN s[k]) m[k] key = j) (hj2 : j < m[k].length) : raN s m k key = (m[k][j], true) := by
  unfold raN
  rw [dif_pos ⟨h, by omega, by simpa using h2, by simpa using h3⟩]
  simp only [Int.toNat_natCast]
  rw [if_pos (by omega)]
  simp only [hj, Int.toNat_natCast]
  rw [List.getD_eq_getElem?_getD, List.getElem?_eq_getElem hj2]; rfl

set_option maxHeartbeats 2000000 in
set_option maxRecDepth 100000 in
theorem tx11 {s : List Df} {m : Tbs} {t : Int} {key : List Vl} (hs : zSc s ≤ 2000000 := by first | assumption | omega | (simp; done) | (simp; omega)) (hm : zMdb m ≤ 2000000 := by first | assumption | omega | (simp; done) | (simp; omega)) (hk : key.length ≤ 2000000 := by first | assumption | omega | (simp; done) | (simp; omega)) : T 11 [aE s, .val true [slE false m], aI t, aE key] [vE (raN s m t key).1, vB (raN s m t key).2] [none, none, none, none] := by
  refine w_call md [[3], []] Tryz.func11 rfl ?_
  obtain ⟨q1, q2⟩ := zSc_b hs
  obtain ⟨z1, z2⟩ := zMdb_b hm
  by_cases h : fbN s = -1
  · by_cases ht : inB t 0 ((s.length : Int) - 1) = true
    · have hb := inB_iff.1 ht
      obtain ⟨k, rfl⟩ : ∃ k : Nat, t = k := ⟨t.toNat, by omega⟩
      have h2 : k < s.length := by omega
      have hd := q2 k h2
      by_cases h3 : k < m.length
      · have hz := z2 k h3
        by_cases hr : 0 ≤ atN (ppN s[k]) m[k] key
        · obtain ⟨j, hj⟩ : ∃ j : Nat, atN (ppN s[k]) m[k] key = j := ⟨(atN (ppN s[k]) m[k] key).toNat, by omega⟩
          have hj2 : j < m[k].length := atN_lt hj
          have hzj := hz.2 j hj2
          rw [raN_y h h2 h3 hj hj2]
          have hX : T 28 [aE s, aI k, aI (-1)] [vB true] [none, none, none] := by
            have h9 := tx28 (s := s) (t := k) (i := -1)
            rwa [hx_y h h2] at h9
          have hA : T 29 [aE s, .val true [slE false m], aI k, aE key] [vI (j : Int)] [none, none, none, none] := by
            have h9 := tx29 (s := s) (m := m) (t := k) (key := key)
            rwa [hj] at h9
          repeat' ((conv => whnf); (first | (apply cx28; refine kl (hX) ?_) | (apply cx29; refine kl (hA) ?_) | (apply cx30; refine kl (tx30 (r := m[k][j])) ?_) | refine k0 ?_ | refine jA fun _ => ?_ | refine jB fun _ => ?_ | refine kC (fun _ => ?_) fun _ => ?_ | refine jS ?_ | refine jI ?_ | (apply cx28; refine kl tx28 ?_) | (apply cx29; refine kl tx29 ?_) | (apply cx30; refine kl tx30 ?_) | refine jD ?_ | refine ⟨snc, _, snr, ?_⟩ | refine ⟨⟨Nat.le_refl _, rfl⟩, [], rfl, ?_⟩ | refine And.intro ⟨rfl, rfl, by decide, rfl⟩ ?_ | refine jP ?_ | refine jO ?_ | refine jX ?_ | refine jb jr ?_ | refine jb ofs ?_ | refine ko jc ?_ | refine ko jp ?_ | refine jM ?_ | refine kr ?_ | refine ko rfl ?_ | refine And.intro (cs_shal _) ?_ | refine And.intro (rfl : List.all _ _ = true) ?_ | refine And.intro ⟨rfl, (rfl : List.all _ _ = true)⟩ ?_ | exact ⟨rfl, rfl⟩ | exact jV | fail))
        · rw [raN_z h h2 h3 hr]
          have hX : T 28 [aE s, aI k, aI (-1)] [vB true] [none, none, none] := by
            have h9 := tx28 (s := s) (t := k) (i := -1)
            rwa [hx_y h h2] at h9
          repeat' ((conv => whnf); (first | (apply cx28; refine kl (hX) ?_) | (apply cx29; refine kl (tx29 (s := s) (m := m) (t := k) (key := key)) ?_) | refine k0 ?_ | refine jA fun _ => ?_ | refine jB fun _ => ?_ | refine kC (fun _ => ?_) fun _ => ?_ | refine jS ?_ | refine jI ?_ | (apply cx28; refine kl tx28 ?_) | (apply cx29; refine kl tx29 ?_) | (apply cx30; refine kl tx30 ?_) | refine jD ?_ | refine ⟨snc, _, snr, ?_⟩ | refine ⟨⟨Nat.le_refl _, rfl⟩, [], rfl, ?_⟩ | refine And.intro ⟨rfl, rfl, by decide, rfl⟩ ?_ | refine jP ?_ | refine jO ?_ | refine jX ?_ | refine jb jr ?_ | refine jb ofs ?_ | refine ko jc ?_ | refine ko jp ?_ | refine jM ?_ | refine kr ?_ | refine ko rfl ?_ | refine And.intro (cs_shal _) ?_ | refine And.intro (rfl : List.all _ _ = true) ?_ | refine And.intro ⟨rfl, (rfl : List.all _ _ = true)⟩ ?_ | exact ⟨rfl, rfl⟩ | exact jV | fail))
      · rw [raN_n (t := (k : Int)) (fun q => h3 (by simpa using q.2.2.2))]
        have hX : T 28 [aE s, aI k, aI (-1)] [vB true] [none, none, none] := by
          have h9 := tx28 (s := s) (t := k) (i := -1)
          rwa [hx_y h h2] at h9
        repeat' ((conv => whnf); (first | (apply cx28; refine kl (hX) ?_) | refine k0 ?_ | refine jA fun _ => ?_ | refine jB fun _ => ?_ | refine kC (fun _ => ?_) fun _ => ?_ | refine jS ?_ | refine jI ?_ | (apply cx28; refine kl tx28 ?_) | (apply cx29; refine kl tx29 ?_) | (apply cx30; refine kl tx30 ?_) | refine jD ?_ | refine ⟨snc, _, snr, ?_⟩ | refine ⟨⟨Nat.le_refl _, rfl⟩, [], rfl, ?_⟩ | refine And.intro ⟨rfl, rfl, by decide, rfl⟩ ?_ | refine jP ?_ | refine jO ?_ | refine jX ?_ | refine jb jr ?_ | refine jb ofs ?_ | refine ko jc ?_ | refine ko jp ?_ | refine jM ?_ | refine kr ?_ | refine ko rfl ?_ | refine And.intro (cs_shal _) ?_ | refine And.intro (rfl : List.all _ _ = true) ?_ | refine And.intro ⟨rfl, (rfl : List.all _ _ = true)⟩ ?_ | exact ⟨rfl, rfl⟩ | exact jV | fail))
    · rw [raN_n fun q => ht (inB_iff.2 (by omega))]
      have hX : T 28 [aE s, aI t, aI (-1)] [vB false] [none, none, none] := by
        have h9 := tx28 (s := s) (t := t) (i := -1)
        rwa [hx_n fun q => ht (inB_iff.2 (by omega))] at h9
      repeat' ((conv => whnf); (first | (apply cx28; refine kl (hX) ?_) | refine k0 ?_ | refine jA fun _ => ?_ | refine jB fun _ => ?_ | refine kC (fun _ => ?_) fun _ => ?_ | refine jS ?_ | refine jI ?_ | (apply cx28; refine kl tx28 ?_) | (apply cx29; refine kl tx29 ?_) | (apply cx30; refine kl tx30 ?_) | refine jD ?_ | refine ⟨snc, _, snr, ?_⟩ | refine ⟨⟨Nat.le_refl _, rfl⟩, [], rfl, ?_⟩ | refine And.intro ⟨rfl, rfl, by decide, rfl⟩ ?_ | refine jP ?_ | refine jO ?_ | refine jX ?_ | refine jb jr ?_ | refine jb ofs ?_ | refine ko jc ?_ | refine ko jp ?_ | refine jM ?_ | refine kr ?_ | refine ko rfl ?_ | refine And.intro (cs_shal _) ?_ | refine And.intro (rfl : List.all _ _ = true) ?_ | refine And.intro ⟨rfl, (rfl : List.all _ _ = true)⟩ ?_ | exact ⟨rfl, rfl⟩ | exact jV | fail))
  · rw [raN_n fun q => h q.1]
    have hX : T 28 [aE s, aI t, aI (-1)] [vB false] [none, none, none] := by
      have h9 := tx28 (s := s) (t := t) (i := -1)
      rwa [hx_n fun q => h q.1] at h9
    repeat' ((conv => whnf); (first | (apply cx28; refine kl (hX) ?_) | refine k0 ?_ | refine jA fun _ => ?_ | refine jB fun _ => ?_ | refine kC (fun _ => ?_) fun _ => ?_ | refine jS ?_ | refine jI ?_ | (apply cx28; refine kl tx28 ?_) | (apply cx29; refine kl tx29 ?_) | (apply cx30; refine kl tx30 ?_) | refine jD ?_ | refine ⟨snc, _, snr, ?_⟩ | refine ⟨⟨Nat.le_refl _, rfl⟩, [], rfl, ?_⟩ | refine And.intro ⟨rfl, rfl, by decide, rfl⟩ ?_ | refine jP ?_ | refine jO ?_ | refine jX ?_ | refine jb jr ?_ | refine jb ofs ?_ | refine ko jc ?_ | refine ko jp ?_ | refine jM ?_ | refine kr ?_ | refine ko rfl ?_ | refine And.intro (cs_shal _) ?_ | refine And.intro (rfl : List.all _ _ = true) ?_ | refine And.intro ⟨rfl, (rfl : List.all _ _ = true)⟩ ?_ | exact ⟨rfl, rfl⟩ | exact jV | fail))

theorem cx11 {P : Program} {X : FuncId → List Arg → List (Bool × List Cell) → List (Option (List Cell)) → Prop} {a : List Arg} {Q : List (Bool × List Cell) → List (Option (List Cell)) → Prop} (h : ∃ b vals outs, a = b ∧ D P X (.call 11 b vals outs) ∧ Q vals outs) : CallS P X 11 a Q := ⟨h⟩

set_option maxHeartbeats 2000000 in
set_option maxRecDepth 100000 in
theorem tx7 {s : List Df} {m : Tbs} {t : Int} {key : List Vl} (hs : zSc s ≤ 2000000 := by first | assumption | omega | (simp; done) | (simp; omega)) (hm : zMdb m ≤ 2000000 := by first | assumption | omega | (simp; done) | (simp; omega)) (hk : key.length ≤ 2000000 := by first | assumption | omega | (simp; done) | (simp; omega)) : T 7 [aE s, .val true [slE false m], aI t, aE key] [vE (raN s m t key).1, vB (raN s m t key).2] [none, none, none, none] := by
  refine w_call md [] Tryz.func7 rfl ?_
  obtain ⟨q1, q2⟩ := zSc_b hs
  obtain ⟨z1, z2⟩ := zMdb_b hm
  by_cases h : fbN s = -1
  · by_cases ht : inB t 0 ((s.length : Int) - 1) = true
    · have hb := inB_iff.1 ht
      obtain ⟨k, rfl⟩ : ∃ k : Nat, t = k := ⟨t.toNat, by omega⟩
      have h2 : k < s.length := by omega
      have hd := q2 k h2
      by_cases h3 : k < m.length
      · have hz := z2 k h3
        by_cases hr : 0 ≤ atN (ppN s[k]) m[k] key
        · obtain ⟨j, hj⟩ : ∃ j : Nat, atN (ppN s[k]) m[k] key = j := ⟨(atN (ppN s[k]) m[k] key).toNat, by omega⟩
          have hj2 : j < m[k].length := atN_lt hj
          have hzj := hz.2 j hj2
          rw [raN_y h h2 h3 hj hj2]
          have hF : T 22 [aE s] [vI (-1)] [none] := by
            have h9 := tx22 (s := s)
            rwa [h] at h9
          have hI : T 23 [aI k, aI 0, aI ((s.length : Int) - 1)] [vB true] [none, none, none] := by
            have h9 := tx23 (n := k) (l := 0) (h := (s.length : Int) - 1)
            rwa [ht] at h9
          have hA : T 24 [.val true (dfC false s[k]), aE m[k], aE key] [vI (j : Int)] [none, none, none] := by
            have h9 := tx24 (d := s[k]) (rows := m[k]) (key := key)
            rwa [hj] at h9
          repeat' ((conv => whnf); (first | (apply cx22; refine kl (hF) ?_) | (apply cx23; refine kl (hI) ?_) | (apply cx24; refine kl (hA) ?_) | refine Exists.intro _ (Exists.intro (cs true (_ : List Vl)) (And.intro rfl (And.intro ⟨Nat.le_refl _, bgb (by omega), bg (by omega)⟩ (Exists.intro _ (And.intro ape (Exists.intro _ (And.intro (Nat.zero_add _) ?_))))))) | refine k0 ?_ | refine jA fun _ => ?_ | refine jB fun _ => ?_ | refine kC (fun _ => ?_) fun _ => ?_ | refine jS ?_ | refine jI ?_ | (apply cx22; refine kl tx22 ?_) | (apply cx23; refine kl tx23 ?_) | (apply cx24; refine kl tx24 ?_) | refine jD ?_ | refine ⟨snc, _, snr, ?_⟩ | refine ⟨⟨Nat.le_refl _, rfl⟩, [], rfl, ?_⟩ | refine And.intro ⟨rfl, rfl, by decide, rfl⟩ ?_ | refine jP ?_ | refine jO ?_ | refine jX ?_ | refine jb jr ?_ | refine jb ofs ?_ | refine ko jc ?_ | refine ko jp ?_ | refine jM ?_ | refine kr ?_ | refine ko rfl ?_ | refine And.intro (cs_shal _) ?_ | refine And.intro (rfl : List.all _ _ = true) ?_ | refine And.intro ⟨rfl, (rfl : List.all _ _ = true)⟩ ?_ | exact ⟨rfl, rfl⟩ | exact jV | fail))
        · rw [raN_z h h2 h3 hr]
          have hF : T 22 [aE s] [vI (-1)] [none] := by
            have h9 := tx22 (s := s)
            rwa [h] at h9
          have hI : T 23 [aI k, aI 0, aI ((s.length : Int) - 1)] [vB true] [none, none, none] := by
            have h9 := tx23 (n := k) (l := 0) (h := (s.length : Int) - 1)
            rwa [ht] at h9
          repeat' ((conv => whnf); (first | (apply cx22; refine kl (hF) ?_) | (apply cx23; refine kl (hI) ?_) | (apply cx24; refine kl (tx24 (d := s[k]) (rows := m[k]) (key := key)) ?_) | refine k0 ?_ | refine jA fun _ => ?_ | refine jB fun _ => ?_ | refine kC (fun _ => ?_) fun _ => ?_ | refine jS ?_ | refine jI ?_ | (apply cx22; refine kl tx22 ?_) | (apply cx23; refine kl tx23 ?_) | (apply cx24; refine kl tx24 ?_) | refine jD ?_ | refine ⟨snc, _, snr, ?_⟩ | refine ⟨⟨Nat.le_refl _, rfl⟩, [], rfl, ?_⟩ | refine And.intro ⟨rfl, rfl, by decide, rfl⟩ ?_ | refine jP ?_ | refine jO ?_ | refine jX ?_ | refine jb jr ?_ | refine jb ofs ?_ | refine ko jc ?_ | refine ko jp ?_ | refine jM ?_ | refine kr ?_ | refine ko rfl ?_ | refine And.intro (cs_shal _) ?_ | refine And.intro (rfl : List.all _ _ = true) ?_ | refine And.intro ⟨rfl, (rfl : List.all _ _ = true)⟩ ?_ | exact ⟨rfl, rfl⟩ | exact jV | fail))
      · rw [raN_n (t := (k : Int)) (fun q => h3 (by simpa using q.2.2.2))]
        have hF : T 22 [aE s] [vI (-1)] [none] := by
          have h9 := tx22 (s := s)
          rwa [h] at h9
        have hI : T 23 [aI k, aI 0, aI ((s.length : Int) - 1)] [vB true] [none, none, none] := by
          have h9 := tx23 (n := k) (l := 0) (h := (s.length : Int) - 1)
          rwa [ht] at h9
        repeat' ((conv => whnf); (first | (apply cx22; refine kl (hF) ?_) | (apply cx23; refine kl (hI) ?_) | refine k0 ?_ | refine jA fun _ => ?_ | refine jB fun _ => ?_ | refine kC (fun _ => ?_) fun _ => ?_ | refine jS ?_ | refine jI ?_ | (apply cx22; refine kl tx22 ?_) | (apply cx23; refine kl tx23 ?_) | (apply cx24; refine kl tx24 ?_) | refine jD ?_ | refine ⟨snc, _, snr, ?_⟩ | refine ⟨⟨Nat.le_refl _, rfl⟩, [], rfl, ?_⟩ | refine And.intro ⟨rfl, rfl, by decide, rfl⟩ ?_ | refine jP ?_ | refine jO ?_ | refine jX ?_ | refine jb jr ?_ | refine jb ofs ?_ | refine ko jc ?_ | refine ko jp ?_ | refine jM ?_ | refine kr ?_ | refine ko rfl ?_ | refine And.intro (cs_shal _) ?_ | refine And.intro (rfl : List.all _ _ = true) ?_ | refine And.intro ⟨rfl, (rfl : List.all _ _ = true)⟩ ?_ | exact ⟨rfl, rfl⟩ | exact jV | fail))
    · rw [raN_n fun q => ht (inB_iff.2 (by omega))]
      have hF : T 22 [aE s] [vI (-1)] [none] := by
        have h9 := tx22 (s := s)
        rwa [h] at h9
      have hI : T 23 [aI t, aI 0, aI ((s.length : Int) - 1)] [vB false] [none, none, none] := by
        have h9 := tx23 (n := t) (l := 0) (h := (s.length : Int) - 1)
        rwa [bNt ht] at h9
      repeat' ((conv => whnf); (first | (apply cx22; refine kl (hF) ?_) | (apply cx23; refine kl (hI) ?_) | refine k0 ?_ | refine jA fun _ => ?_ | refine jB fun _ => ?_ | refine kC (fun _ => ?_) fun _ => ?_ | refine jS ?_ | refine jI ?_ | (apply cx22; refine kl tx22 ?_) | (apply cx23; refine kl tx23 ?_) | (apply cx24; refine kl tx24 ?_) | refine jD ?_ | refine ⟨snc, _, snr, ?_⟩ | refine ⟨⟨Nat.le_refl _, rfl⟩, [], rfl, ?_⟩ | refine And.intro ⟨rfl, rfl, by decide, rfl⟩ ?_ | refine jP ?_ | refine jO ?_ | refine jX ?_ | refine jb jr ?_ | refine jb ofs ?_ | refine ko jc ?_ | refine ko jp ?_ | refine jM ?_ | refine kr ?_ | refine ko rfl ?_ | refine And.intro (cs_shal _) ?_ | refine And.intro (rfl : List.all _ _ = true) ?_ | refine And.intro ⟨rfl, (rfl : List.all _ _ = true)⟩ ?_ | exact ⟨rfl, rfl⟩ | exact jV | fail))
  · rw [raN_n fun q => h q.1]
    skip
    repeat' ((conv => whnf); (first | (apply cx22; refine kl (tx22 (s := s)) ?_) | refine k0 ?_ | refine jA fun _ => ?_ | refine jB fun _ => ?_ | refine kC (fun _ => ?_) fun _ => ?_ | refine jS ?_ | refine jI ?_ | (apply cx22; refine kl tx22 ?_) | (apply cx23; refine kl tx23 ?_) | (apply cx24; refine kl tx24 ?_) | refine jD ?_ | refine ⟨snc, _, snr, ?_⟩ | refine ⟨⟨Nat.le_refl _, rfl⟩, [], rfl, ?_⟩ | refine And.intro ⟨rfl, rfl, by decide, rfl⟩ ?_ | refine jP ?_ | refine jO ?_ | refine jX ?_ | refine jb jr ?_ | refine jb ofs ?_ | refine ko jc ?_ | refine ko jp ?_ | refine jM ?_ | refine kr ?_ | refine ko rfl ?_ | refine And.intro (cs_shal _) ?_ | refine And.intro (rfl : List.all _ _ = true) ?_ | refine And.intro ⟨rfl, (rfl : List.all _ _ = true)⟩ ?_ | exact ⟨rfl, rfl⟩ | exact jV | fail))

theorem cx7 {P : Program} {X : FuncId → List Arg → List (Bool × List Cell) → List (Option (List Cell)) → Prop} {a : List Arg} {Q : List (Bool × List Cell) → List (Option (List Cell)) → Prop} (h : ∃ b vals outs, a = b ∧ D P X (.call 7 b vals outs) ∧ Q vals outs) : CallS P X 7 a Q := ⟨h⟩

end Go.Proofs.YtkimclpagokeaaaGreatDoor
