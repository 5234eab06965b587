/- Functions of the program, each with what it gives back. -/
import Derived.Test.YtopnaijeicknoaaGreatDoorKe
import Derived.Test.YtopnaijeicknoaaGreatDoorChecked
import Derived.IntWalk
import Derived.Test.YtopnaijeicknoaaGreatDoorMl
namespace Go.Proofs.YtopnaijeicknoaaGreatDoor
open Go Go.RowKit Go.IntWalk
open Enc (sz cs)
attribute [local irreducible] IntKind.wrap

attribute [local irreducible] ptsO ptO pkR ppN bOf fstI fbN cdN
noncomputable abbrev hxN (s : List Df) (t i : Int) : Bool := bOf (fbN s = -1 ∧ ∃ h : 0 ≤ t ∧ t.toNat < s.length, inB i (-1) (((s[t.toNat]'h.2).idx.length : Int) - 1) = true)

set_option maxRecDepth 100000 in
theorem tx127 {s : List Df} {t i : Int} (hs : zSc s ≤ 2000000 := by first | assumption | omega | (simp; done) | (simp; omega)) : T 127 [aE s, aI t, aI i] [vB (hxN s t i)] [none, none, none] := by
  refine w_call md [] Tryz.func127 rfl ?_
  obtain ⟨q1, q2⟩ := zSc_b hs
  by_cases h : fbN s = -1
  · have hF : T 35 [aE s] [vI (-1)] [none] := by
      have h2 := tx35 (s := s)
      rwa [h] at h2
    by_cases ht : inB t 0 ((s.length : Int) - 1) = true
    · have hb := inB_iff.1 ht
      have hI : T 48 [aI t, aI 0, aI ((s.length : Int) - 1)] [vB true] [none, none, none] := by
        have h := tx48 (n := t) (l := 0) (h := (s.length : Int) - 1)
        rwa [ht] at h
      have h2 : t.toNat < s.length := by omega
      have hz := zDf_b (q2 _ h2)
      have e : hxN s t i = inB i (-1) ((s[t.toNat].idx.length : Int) - 1) := by
        cases hv : inB i (-1) ((s[t.toNat].idx.length : Int) - 1) with
        | true => exact bOf_y ⟨h, ⟨by omega, h2⟩, hv⟩
        | false =>
          refine bOf_n fun q => ?_
          obtain ⟨_, _, q⟩ := q
          exact bft hv q
      have hq := hz.2.2.2.1
      clear hz
      rw [e]
      repeat' ((conv => whnf); (first | (apply cx35; refine kl (hF) ?_) | (apply cx48; refine kl (hI) ?_) | refine And.intro ⟨by omega, by omega⟩ (Exists.intro _ (And.intro (rdI (i := t.toNat) (by omega) (by omega)) ?_)) | (apply cx48; refine kl (tx48 (n := i) (l := -1) (h := (s[t.toNat].idx.length : Int) - 1)) ?_) | refine k0 ?_ | refine jA fun _ => ?_ | refine jB fun _ => ?_ | refine kC (fun _ => ?_) fun _ => ?_ | (apply cx35; refine kl tx35 ?_) | (apply cx48; refine kl tx48 ?_) | refine jst ?_ | exact ⟨rfl, rfl⟩ | exact jV | fail))
      all_goals first | exact ⟨vB1 (by assumption), rfl⟩ | exact ⟨vB0 (by assumption), rfl⟩
    · have hI : T 48 [aI t, aI 0, aI ((s.length : Int) - 1)] [vB false] [none, none, none] := by
        have h := tx48 (n := t) (l := 0) (h := (s.length : Int) - 1)
        rwa [bNt ht] at h
      repeat' ((conv => whnf); (first | (apply cx35; refine kl (hF) ?_) | (apply cx48; refine kl (hI) ?_) | refine k0 ?_ | refine jA fun _ => ?_ | refine jB fun _ => ?_ | refine kC (fun _ => ?_) fun _ => ?_ | (apply cx35; refine kl tx35 ?_) | (apply cx48; refine kl tx48 ?_) | refine jst ?_ | exact ⟨rfl, rfl⟩ | exact jV | fail))
      exact ⟨vB0 (bOf_n fun q => by
        obtain ⟨_, hq, _⟩ := q
        exact ht (inB_iff.2 (by omega))), rfl⟩
  · repeat' ((conv => whnf); (first | (apply cx35; refine kl (tx35 (s := s)) ?_) | refine k0 ?_ | refine jA fun _ => ?_ | refine jB fun _ => ?_ | refine kC (fun _ => ?_) fun _ => ?_ | (apply cx35; refine kl tx35 ?_) | (apply cx48; refine kl tx48 ?_) | refine jst ?_ | exact ⟨rfl, rfl⟩ | exact jV | fail))
    exact ⟨vB0 (bOf_n fun q => h q.1), rfl⟩

theorem cx127 {P : Program} {X : FuncId → List Arg → List (Bool × List Cell) → List (Option (List Cell)) → Prop} {a : List Arg} {Q : List (Bool × List Cell) → List (Option (List Cell)) → Prop} (h : ∃ b vals outs, a = b ∧ D P X (.call 127 b vals outs) ∧ Q vals outs) : CallS P X 127 a Q := ⟨h⟩

theorem hx_y {s : List Df} {k : Nat} (h : fbN s = -1) (h2 : k < s.length) : hxN s k (-1) = true :=
  bOf_y ⟨h, ⟨by omega, by simpa using h2⟩, inB_iff.2 (by omega)⟩
theorem hx_n {s : List Df} {t : Int} (h : ¬ (fbN s = -1 ∧ 0 ≤ t ∧ t.toNat < s.length)) : hxN s t (-1) = false := bOf_n fun q => by
  obtain ⟨h1, h2, _⟩ := q
  exact h ⟨h1, h2⟩
/-- The place of a key's row. -/
noncomputable def atN (plan : List Prt) (rows : List (List Vl)) (key : List Vl) : Int := fstI rows.length fun i => ∃ h : i < rows.length, pkR plan rows[i] = key
theorem atN_lt {plan : List Prt} {rows : List (List Vl)} {key : List Vl} {j : Nat} (h : atN plan rows key = j) : j < rows.length := by
  have key2 : fstI rows.length (fun i => ∃ h : i < rows.length, pkR plan rows[i] = key) = -1 ∨ ∃ i, i < rows.length ∧ fstI rows.length (fun i => ∃ h : i < rows.length, pkR plan rows[i] = key) = (i : Int) := by
    unfold fstI
    split
    · rename_i hx
      exact .inr ⟨_, (Classical.choose_spec hx).1, rfl⟩
    · exact .inl rfl
  unfold atN at h
  rcases key2 with e | ⟨i, hi, e⟩
  · rw [e] at h; omega
  · rw [e] at h; omega
theorem zMdb_b {m : Tbs} (h : zMdb m ≤ 2000000) : m.length ≤ 2000000 ∧ ∀ k (hk : k < m.length), m[k].length ≤ 2000000 ∧ ∀ j (hj : j < m[k].length), m[k][j].length ≤ 2000000 := by
  have h0 : zMdb m = m.length + cnt zTab m := rfl
  refine ⟨by omega, fun k hk => ?_⟩
  have h3 := cnt_mem (c := zTab) (List.getElem_mem hk)
  have e3 : zTab m[k] = m[k].length + cnt zRow m[k] := rfl
  refine ⟨by omega, fun j hj => ?_⟩
  have h4 := cnt_mem (c := zRow) (List.getElem_mem hj)
  have e4 : zRow m[k][j] = m[k][j].length + cnt zVl m[k][j] := rfl
  omega

set_option maxHeartbeats 2000000 in
set_option maxRecDepth 100000 in
theorem tx94 {s : List Df} {m : Tbs} {t : Nat} {key : List Vl} (hs : zSc s ≤ 2000000 := by first | assumption | omega | (simp; done) | (simp; omega)) (hm : zMdb m ≤ 2000000 := by first | assumption | omega | (simp; done) | (simp; omega)) (hk : key.length ≤ 2000000 := by first | assumption | omega | (simp; done) | (simp; omega)) (h2 : t < s.length := by first | assumption | omega | (simp; done) | (simp; omega)) (h3 : t < m.length := by first | assumption | omega | (simp; done) | (simp; omega)) : T 94 [aE s, .val true [slE false m], aI t, aE key] [vI (atN (ppN s[t]) m[t] key)] [none, none, none, none] := by
  refine w_call md [] Tryz.func94 rfl ?_
  obtain ⟨q1, q2⟩ := zSc_b hs
  obtain ⟨z1, z2⟩ := zMdb_b hm
  have hd := q2 t h2
  obtain ⟨z3, z4⟩ := z2 t h3
  have hpl := ppN_len (d := s[t])
  repeat' ((conv => whnf); (first | (apply cx76; refine kl (tx76 (d := s[t])) ?_) | refine k0 ?_ | refine jA fun _ => ?_ | refine jB fun _ => ?_ | refine kC (fun _ => ?_) fun _ => ?_ | (apply cx76; refine kl tx76 ?_) | (apply cx80; refine kl tx80 ?_) | (apply cx136; refine kl tx136 ?_) | refine jst ?_ | exact ⟨rfl, rfl⟩ | exact jV | fail))
  conv => whnf
  refine loopk (ι := Nat) (fun i => i ≤ m[t].length ∧ ∀ j (h : j < m[t].length), j < i → pkR (ppN s[t]) m[t][j] ≠ key) (fun i => m[t].length - i) (0) [3, 9, 22, 23] (fun i => [(24, .v false [i6 i])]) [none, none, none, none, none, none] ?_
  refine ⟨⟨by omega, by intros; omega⟩, ?_, fun a ha => ?_⟩
  · exact jw []
  · repeat' ((conv => whnf); (first | refine k0 ?_ | (apply cx76; refine kl tx76 ?_) | (apply cx80; refine kl tx80 ?_) | (apply cx136; refine kl tx136 ?_) | refine jst ?_ | exact ⟨rfl, rfl⟩ | exact jV | fail))
    conv => whnf
    refine ⟨fun hlt => ?_, fun hge => ?_⟩
    · have ha2 : a < m[t].length := by omega
      have hz := z4 a ha2
      have hpk := pkR_len (l := ppN s[t]) (r := m[t][a])
      by_cases e : pkR (ppN s[t]) m[t][a] = key
      · have hS : T 136 [aE (pkR (ppN s[t]) m[t][a]), aE key] [vB true] [none, none] := by
          have h9 := tx136 (a := pkR (ppN s[t]) m[t][a]) (b := key)
          rwa [show smR _ key = true from bOf_y e] at h9
        repeat' ((conv => whnf); (first | (apply cx80; refine kl (tx80 (l := ppN s[t]) (r := m[t][a])) ?_) | (apply cx136; refine kl (hS) ?_) | refine k0 ?_ | refine jA fun _ => ?_ | refine jB fun _ => ?_ | refine kC (fun _ => ?_) fun _ => ?_ | (apply cx76; refine kl tx76 ?_) | (apply cx80; refine kl tx80 ?_) | (apply cx136; refine kl tx136 ?_) | refine jst ?_ | exact ⟨rfl, rfl⟩ | exact jV | fail))
        exact ⟨vI1 (fstI_at ha2 ⟨ha2, e⟩ (fun j hj q => by
          obtain ⟨hq, q⟩ := q
          exact ha.2 j hq hj q)), rfl⟩
      · have hS : T 136 [aE (pkR (ppN s[t]) m[t][a]), aE key] [vB false] [none, none] := by
          have h9 := tx136 (a := pkR (ppN s[t]) m[t][a]) (b := key)
          rwa [show smR _ key = false from bOf_n e] at h9
        repeat' ((conv => whnf); (first | (apply cx80; refine kl (tx80 (l := ppN s[t]) (r := m[t][a])) ?_) | (apply cx136; refine kl (hS) ?_) | refine k0 ?_ | refine jA fun _ => ?_ | refine jB fun _ => ?_ | refine kC (fun _ => ?_) fun _ => ?_ | (apply cx76; refine kl tx76 ?_) | (apply cx80; refine kl tx80 ?_) | (apply cx136; refine kl tx136 ?_) | refine jst ?_ | exact ⟨rfl, rfl⟩ | exact jV | fail))
        refine ⟨⟨a + 1, by omega, all_suc ha.2 ha2 e⟩, by simp only; omega, ?_⟩
        exact jw []
    · obtain rfl : a = m[t].length := by omega
      repeat' ((conv => whnf); (first | refine k0 ?_ | refine jA fun _ => ?_ | refine jB fun _ => ?_ | refine kC (fun _ => ?_) fun _ => ?_ | (apply cx76; refine kl tx76 ?_) | (apply cx80; refine kl tx80 ?_) | (apply cx136; refine kl tx136 ?_) | refine jst ?_ | exact ⟨rfl, rfl⟩ | exact jV | fail))
      exact ⟨vI1 (fstI_no (fun j hj q => by
        obtain ⟨hq, q⟩ := q
        exact ha.2 j hq hj q)), rfl⟩

theorem cx94 {P : Program} {X : FuncId → List Arg → List (Bool × List Cell) → List (Option (List Cell)) → Prop} {a : List Arg} {Q : List (Bool × List Cell) → List (Option (List Cell)) → Prop} (h : ∃ b vals outs, a = b ∧ D P X (.call 94 b vals outs) ∧ Q vals outs) : CallS P X 94 a Q := ⟨h⟩

set_option maxRecDepth 100000 in
theorem tx69 {d : Df} {r : List Vl} (hd : zDf d ≤ 2000000 := by first | assumption | omega | (simp; done) | (simp; omega)) (hr : r.length ≤ 2000000 := by first | assumption | omega | (simp; done) | (simp; omega)) : T 69 [.val true (dfC false d), aE r] [vE (pkR (ppN d) r)] [none, none] := by
  refine w_call md [] Tryz.func69 rfl ?_
  have hpl := ppN_len (d := d)
  repeat' ((conv => whnf); (first | (apply cx64; refine kl (tx64 (d := d)) ?_) | (apply cx116; refine kl (tx116 (l := ppN d) (r := r)) ?_) | refine k0 ?_ | refine jA fun _ => ?_ | refine jB fun _ => ?_ | refine kC (fun _ => ?_) fun _ => ?_ | (apply cx64; refine kl tx64 ?_) | (apply cx116; refine kl tx116 ?_) | refine jst ?_ | exact ⟨rfl, rfl⟩ | exact jV | fail))

theorem cx69 {P : Program} {X : FuncId → List Arg → List (Bool × List Cell) → List (Option (List Cell)) → Prop} {a : List Arg} {Q : List (Bool × List Cell) → List (Option (List Cell)) → Prop} (h : ∃ b vals outs, a = b ∧ D P X (.call 69 b vals outs) ∧ Q vals outs) : CallS P X 69 a Q := ⟨h⟩

set_option maxHeartbeats 2000000 in
set_option maxRecDepth 100000 in
theorem tx42 {d : Df} {rows : List (List Vl)} {key : List Vl} (hd : zDf d ≤ 2000000 := by first | assumption | omega | (simp; done) | (simp; omega)) (hm : rows.length ≤ 2000000 ∧ ∀ j (hj : j < rows.length), rows[j].length ≤ 2000000 := by first | assumption | omega | (simp; done) | (simp; omega)) (hk : key.length ≤ 2000000 := by first | assumption | omega | (simp; done) | (simp; omega)) : T 42 [.val true (dfC false d), aE rows, aE key] [vI (atN (ppN d) rows key)] [none, none, none] := by
  refine w_call md [] Tryz.func42 rfl ?_
  obtain ⟨z3, z4⟩ := hm
  have hpl := ppN_len (d := d)
  repeat' ((conv => whnf); (first | refine k0 ?_ | refine jA fun _ => ?_ | refine jB fun _ => ?_ | refine kC (fun _ => ?_) fun _ => ?_ | (apply cx69; refine kl tx69 ?_) | (apply cx89; refine kl tx89 ?_) | refine jst ?_ | exact ⟨rfl, rfl⟩ | exact jV | fail))
  conv => whnf
  refine loopk (ι := Nat) (fun i => i ≤ rows.length ∧ ∀ j (h : j < rows.length), j < i → pkR (ppN d) rows[j] ≠ key) (fun i => rows.length - i) (0) [1, 2, 3] (fun i => [(7, .v false [i6 i])]) [none, none, none, none] ?_
  refine ⟨⟨by omega, by intros; omega⟩, ?_, fun a ha => ?_⟩
  · exact jw []
  · repeat' ((conv => whnf); (first | refine k0 ?_ | (apply cx69; refine kl tx69 ?_) | (apply cx89; refine kl tx89 ?_) | refine jst ?_ | exact ⟨rfl, rfl⟩ | exact jV | fail))
    conv => whnf
    refine ⟨fun hlt => ?_, fun hge => ?_⟩
    · have ha2 : a < rows.length := by omega
      have hz := z4 a ha2
      have hpk := pkR_len (l := ppN d) (r := rows[a])
      by_cases e : pkR (ppN d) rows[a] = key
      · have hS : T 89 [aE (pkR (ppN d) rows[a]), aE key] [vB true] [none, none] := by
          have h9 := tx89 (a := pkR (ppN d) rows[a]) (b := key)
          rwa [show smR _ key = true from bOf_y e] at h9
        repeat' ((conv => whnf); (first | (apply cx69; refine kl (tx69 (d := d) (r := rows[a])) ?_) | (apply cx89; refine kl (hS) ?_) | refine k0 ?_ | refine jA fun _ => ?_ | refine jB fun _ => ?_ | refine kC (fun _ => ?_) fun _ => ?_ | (apply cx69; refine kl tx69 ?_) | (apply cx89; refine kl tx89 ?_) | refine jst ?_ | exact ⟨rfl, rfl⟩ | exact jV | fail))
        exact ⟨vI1 (fstI_at ha2 ⟨ha2, e⟩ (fun j hj q => by
          obtain ⟨hq, q⟩ := q
          exact ha.2 j hq hj q)), rfl⟩
      · have hS : T 89 [aE (pkR (ppN d) rows[a]), aE key] [vB false] [none, none] := by
          have h9 := tx89 (a := pkR (ppN d) rows[a]) (b := key)
          rwa [show smR _ key = false from bOf_n e] at h9
        repeat' ((conv => whnf); (first | (apply cx69; refine kl (tx69 (d := d) (r := rows[a])) ?_) | (apply cx89; refine kl (hS) ?_) | refine k0 ?_ | refine jA fun _ => ?_ | refine jB fun _ => ?_ | refine kC (fun _ => ?_) fun _ => ?_ | (apply cx69; refine kl tx69 ?_) | (apply cx89; refine kl tx89 ?_) | refine jst ?_ | exact ⟨rfl, rfl⟩ | exact jV | fail))
        refine ⟨⟨a + 1, by omega, all_suc ha.2 ha2 e⟩, by simp only; omega, ?_⟩
        exact jw []
    · obtain rfl : a = rows.length := by omega
      repeat' ((conv => whnf); (first | refine k0 ?_ | refine jA fun _ => ?_ | refine jB fun _ => ?_ | refine kC (fun _ => ?_) fun _ => ?_ | (apply cx69; refine kl tx69 ?_) | (apply cx89; refine kl tx89 ?_) | refine jst ?_ | exact ⟨rfl, rfl⟩ | exact jV | fail))
      exact ⟨vI1 (fstI_no (fun j hj q => by
        obtain ⟨hq, q⟩ := q
        exact ha.2 j hq hj q)), rfl⟩

theorem cx42 {P : Program} {X : FuncId → List Arg → List (Bool × List Cell) → List (Option (List Cell)) → Prop} {a : List Arg} {Q : List (Bool × List Cell) → List (Option (List Cell)) → Prop} (h : ∃ b vals outs, a = b ∧ D P X (.call 42 b vals outs) ∧ Q vals outs) : CallS P X 42 a Q := ⟨h⟩

attribute [local irreducible] atN
/-- The row of a key. -/
noncomputable def raN (s : List Df) (m : Tbs) (t : Int) (key : List Vl) : List Vl × Bool :=
  if h : fbN s = -1 ∧ 0 ≤ t ∧ t.toNat < s.length ∧ t.toNat < m.length then
    if 0 ≤ atN (ppN (s[t.toNat]'h.2.2.1)) (m[t.toNat]'h.2.2.2) key then ((m[t.toNat]'h.2.2.2).getD (atN (ppN (s[t.toNat]'h.2.2.1)) (m[t.toNat]'h.2.2.2) key).toNat [], true) else ([], false)
  else ([], false)
theorem raN_n {s : List Df} {m : Tbs} {t : Int} {key : List Vl} (h : ¬ (fbN s = -1 ∧ 0 ≤ t ∧ t.toNat < s.length ∧ t.toNat < m.length)) : raN s m t key = ([], false) := dif_neg h
theorem raN_z {s : List Df} {m : Tbs} {k : Nat} {key : List Vl} (h : fbN s = -1) (h2 : k < s.length) (h3 : k < m.length) (hr : ¬ 0 ≤ atN (ppN s[k]) m[k] key) : raN s m k key = ([], false) := by
  unfold raN
  rw [dif_pos ⟨h, by omega, by simpa using h2, by simpa using h3⟩]
  simp only [Int.toNat_natCast]
  rw [if_neg hr]
theorem raN_y {s : List Df} {m : Tbs} {k j : Nat} {key : List Vl} (h : fbN s = -1) (h2 : k < s.length) (h3 : k < m.length) (hj : atN (ppN s[k]) m[k] key = j) (hj2 : j < m[k].length) : raN s m k key = (m[k][j], true) := by
  unfold raN
  rw [dif_pos ⟨h, by omega, by simpa using h2, by simpa using h3⟩]
  simp only [Int.toNat_natCast]
  rw [if_pos (by omega)]
  simp only [hj, Int.toNat_natCast]
  rw [List.getD_eq_getElem?_getD, List.getElem?_eq_getElem hj2]; rfl

end Go.Proofs.YtopnaijeicknoaaGreatDoor
