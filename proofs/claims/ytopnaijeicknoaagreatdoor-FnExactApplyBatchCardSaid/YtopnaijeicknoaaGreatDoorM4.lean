/- Functions of the program, each with what it gives back. -/
import Derived.Test.YtopnaijeicknoaaGreatDoorKe
import Derived.Test.YtopnaijeicknoaaGreatDoorChecked
import Derived.IntWalk
import Derived.Test.YtopnaijeicknoaaGreatDoorM3
namespace Go.Proofs.YtopnaijeicknoaaGreatDoor
open Go Go.RowKit Go.IntWalk
open Enc (sz cs)
attribute [local irreducible] IntKind.wrap

/-! ### Operations by themselves -/
attribute [local irreducible] pkR ppN bOf fbN cdN rpN atN tkN moS moI
abbrev RvB (r : List Vl) : Prop := r.length ≤ 2000000 ∧ ∀ i (h : i < r.length), r[i].s.size ≤ 2000000
theorem RvB.of {r : List Vl} (h : zRow r ≤ 2000000) : RvB r := by
  have e4 : zRow r = r.length + cnt zVl r := rfl
  refine ⟨by omega, fun i hi => ?_⟩
  have h5 := cnt_mem (c := zVl) (List.getElem_mem hi)
  have e5 : zVl r[i] = r[i].s.size := rfl
  omega
theorem ofT_40 {d : Df} {k : Nat} {o : Opn} (h : o.kind = 4) (h2 : roOk (ppN d) o.row = false) : ofT d k o = 3 := by
  unfold ofT; rw [if_pos h, if_neg (by rw [h2]; decide)]
theorem ofT_41 {d : Df} {k : Nat} {o : Opn} (h : o.kind = 4) (h2 : roOk (ppN d) o.row = true) : ofT d k o = 0 := by
  unfold ofT; rw [if_pos h, if_pos h2]
theorem ofT_n0 {d : Df} {k : Nat} {o : Opn} (h : ¬ o.kind = 4) (h2 : roOk (rpN d) o.row = false) : ofT d k o = 3 := by
  unfold ofT; rw [if_neg h, if_neg (by rw [h2]; decide)]
theorem ofT_n1 {d : Df} {k : Nat} {o : Opn} (h : ¬ o.kind = 4) (h2 : roOk (rpN d) o.row = true) (h3 : lkN d k o.row = true) : ofT d k o = 7 := by
  unfold ofT; rw [if_neg h, if_pos h2, if_pos h3]
theorem ofT_n2 {d : Df} {k : Nat} {o : Opn} (h : ¬ o.kind = 4) (h2 : roOk (rpN d) o.row = true) (h3 : lkN d k o.row = false) : ofT d k o = 0 := by
  unfold ofT; rw [if_neg h, if_pos h2, if_neg (by rw [h3]; decide)]
/-- The code of an operation by itself, its kind apart. -/
noncomputable def ofN (s : List Df) (o : Opn) : Int := if h : 0 ≤ o.t ∧ o.t.toNat < s.length then ofT (s[o.t.toNat]'h.2) o.t.toNat o else 2
theorem ofN_n {s : List Df} {o : Opn} (h : ¬ (0 ≤ o.t ∧ o.t.toNat < s.length)) : ofN s o = 2 := dif_neg h
theorem ofN_y {s : List Df} {kd : Int} {row : List Vl} {k : Nat} (h : k < s.length) : ofN s ⟨kd, k, row⟩ = ofT s[k] k ⟨kd, k, row⟩ := by
  unfold ofN
  rw [dif_pos ⟨by simp, by simpa using h⟩]
  simp only [Int.toNat_natCast]
attribute [local irreducible] ofT ofN

set_option maxHeartbeats 2000000 in
set_option maxRecDepth 100000 in
theorem tx93 {s : List Df} {kd t : Int} {row : List Vl} (hf : fbN s = -1 := by first | assumption | omega | (simp; done) | (simp; omega)) (hs : zSc s ≤ 2000000 := by first | assumption | omega | (simp; done) | (simp; omega)) (hr : RvB row := by first | assumption | omega | (simp; done) | (simp; omega)) : T 93 [aE s, .val true [i6 kd, i6 t, slE false row]] [vI (ofN s ⟨kd, t, row⟩)] [none, none] := by
  refine w_call md [] Tryz.func93 rfl ?_
  obtain ⟨q1, q2⟩ := zSc_b hs
  have hrl := hr.1
  by_cases ht : inB t 0 ((s.length : Int) - 1) = true
  · have hb := inB_iff.1 ht
    obtain ⟨k, rfl⟩ : ∃ k : Nat, t = k := ⟨t.toNat, by omega⟩
    have h2 : k < s.length := by omega
    have hd := q2 k h2
    have hpl := ppN_len (d := s[k])
    have hrl2 := rpN_len (d := s[k])
    have hI : T 48 [aI (k : Nat), aI 0, aI ((s.length : Int) - 1)] [vB true] [none, none, none] := by
      have h := tx48 (n := k) (l := 0) (h := (s.length : Int) - 1)
      rwa [ht] at h
    rw [ofN_y h2]
    by_cases h4 : kd = 4
    · subst h4
      have hR : T 77 [aE (ppN s[k]), aE row] [vB (roOk (ppN s[k]) row)] [none, none] := tx77
      cases e : roOk (ppN s[k]) row
      · rw [e] at hR
        rw [ofT_40 rfl e]
        repeat' ((conv => whnf); (first | (apply cx48; refine kl (hI) ?_) | (apply cx77; refine kl (hR) ?_) | refine And.intro ⟨by omega, by omega⟩ (Exists.intro _ (And.intro (rdI (i := k) (by omega) (by omega)) ?_)) | (apply cx76; refine kl (tx76 (d := s[k])) ?_) | refine k0 ?_ | refine jA fun _ => ?_ | refine jB fun _ => ?_ | refine kC (fun _ => ?_) fun _ => ?_ | (apply cx48; refine kl tx48 ?_) | (apply cx76; refine kl tx76 ?_) | (apply cx77; refine kl tx77 ?_) | (apply cx75; refine kl tx75 ?_) | (apply cx78; refine kl tx78 ?_) | refine jst ?_ | exact ⟨rfl, rfl⟩ | exact jV | fail))
      · rw [e] at hR
        rw [ofT_41 rfl e]
        repeat' ((conv => whnf); (first | (apply cx48; refine kl (hI) ?_) | (apply cx77; refine kl (hR) ?_) | refine And.intro ⟨by omega, by omega⟩ (Exists.intro _ (And.intro (rdI (i := k) (by omega) (by omega)) ?_)) | (apply cx76; refine kl (tx76 (d := s[k])) ?_) | refine k0 ?_ | refine jA fun _ => ?_ | refine jB fun _ => ?_ | refine kC (fun _ => ?_) fun _ => ?_ | (apply cx48; refine kl tx48 ?_) | (apply cx76; refine kl tx76 ?_) | (apply cx77; refine kl tx77 ?_) | (apply cx75; refine kl tx75 ?_) | (apply cx78; refine kl tx78 ?_) | refine jst ?_ | exact ⟨rfl, rfl⟩ | exact jV | fail))
    · have hR : T 77 [aE (rpN s[k]), aE row] [vB (roOk (rpN s[k]) row)] [none, none] := tx77
      have hL : T 78 [aE s, aI (k : Nat), aE row] [vB (lkN s[k] k row)] [none, none, none] := tx78 hf h2
      cases e : roOk (rpN s[k]) row
      · rw [e] at hR
        rw [ofT_n0 h4 e]
        repeat' ((conv => whnf); (first | (apply cx48; refine kl (hI) ?_) | (apply cx77; refine kl (hR) ?_) | refine And.intro ⟨by omega, by omega⟩ (Exists.intro _ (And.intro (rdI (i := k) (by omega) (by omega)) ?_)) | (apply cx75; refine kl (tx75 (d := s[k])) ?_) | refine k0 ?_ | refine jA fun _ => ?_ | refine jB fun _ => ?_ | refine kC (fun _ => ?_) fun _ => ?_ | (apply cx48; refine kl tx48 ?_) | (apply cx76; refine kl tx76 ?_) | (apply cx77; refine kl tx77 ?_) | (apply cx75; refine kl tx75 ?_) | (apply cx78; refine kl tx78 ?_) | refine jst ?_ | exact ⟨rfl, rfl⟩ | exact jV | fail))
      · rw [e] at hR
        cases e2 : lkN s[k] k row
        · rw [e2] at hL
          rw [ofT_n2 h4 e e2]
          repeat' ((conv => whnf); (first | (apply cx48; refine kl (hI) ?_) | (apply cx77; refine kl (hR) ?_) | refine And.intro ⟨by omega, by omega⟩ (Exists.intro _ (And.intro (rdI (i := k) (by omega) (by omega)) ?_)) | (apply cx75; refine kl (tx75 (d := s[k])) ?_) | (apply cx78; refine kl (hL) ?_) | refine k0 ?_ | refine jA fun _ => ?_ | refine jB fun _ => ?_ | refine kC (fun _ => ?_) fun _ => ?_ | (apply cx48; refine kl tx48 ?_) | (apply cx76; refine kl tx76 ?_) | (apply cx77; refine kl tx77 ?_) | (apply cx75; refine kl tx75 ?_) | (apply cx78; refine kl tx78 ?_) | refine jst ?_ | exact ⟨rfl, rfl⟩ | exact jV | fail))
        · rw [e2] at hL
          rw [ofT_n1 h4 e e2]
          repeat' ((conv => whnf); (first | (apply cx48; refine kl (hI) ?_) | (apply cx77; refine kl (hR) ?_) | refine And.intro ⟨by omega, by omega⟩ (Exists.intro _ (And.intro (rdI (i := k) (by omega) (by omega)) ?_)) | (apply cx75; refine kl (tx75 (d := s[k])) ?_) | (apply cx78; refine kl (hL) ?_) | refine k0 ?_ | refine jA fun _ => ?_ | refine jB fun _ => ?_ | refine kC (fun _ => ?_) fun _ => ?_ | (apply cx48; refine kl tx48 ?_) | (apply cx76; refine kl tx76 ?_) | (apply cx77; refine kl tx77 ?_) | (apply cx75; refine kl tx75 ?_) | (apply cx78; refine kl tx78 ?_) | refine jst ?_ | exact ⟨rfl, rfl⟩ | exact jV | fail))
  · have hI : T 48 [aI t, aI 0, aI ((s.length : Int) - 1)] [vB false] [none, none, none] := by
      have h := tx48 (n := t) (l := 0) (h := (s.length : Int) - 1)
      rwa [bNt ht] at h
    rw [ofN_n (o := ⟨kd, t, row⟩) fun q => ht (inB_iff.2 (by simp only at q; omega))]
    repeat' ((conv => whnf); (first | (apply cx48; refine kl (hI) ?_) | refine k0 ?_ | refine jA fun _ => ?_ | refine jB fun _ => ?_ | refine kC (fun _ => ?_) fun _ => ?_ | (apply cx48; refine kl tx48 ?_) | (apply cx76; refine kl tx76 ?_) | (apply cx77; refine kl tx77 ?_) | (apply cx75; refine kl tx75 ?_) | (apply cx78; refine kl tx78 ?_) | refine jst ?_ | exact ⟨rfl, rfl⟩ | exact jV | fail))

theorem cx93 {P : Program} {X : FuncId → List Arg → List (Bool × List Cell) → List (Option (List Cell)) → Prop} {a : List Arg} {Q : List (Bool × List Cell) → List (Option (List Cell)) → Prop} (h : ∃ b vals outs, a = b ∧ D P X (.call 93 b vals outs) ∧ Q vals outs) : CallS P X 93 a Q := ⟨h⟩

set_option maxHeartbeats 2000000 in
set_option maxRecDepth 100000 in
theorem tx41 {s : List Df} {kd t : Int} {row : List Vl} (hf : fbN s = -1 := by first | assumption | omega | (simp; done) | (simp; omega)) (hs : zSc s ≤ 2000000 := by first | assumption | omega | (simp; done) | (simp; omega)) (hr : RvB row := by first | assumption | omega | (simp; done) | (simp; omega)) : T 41 [aE s, .val true [i6 kd, i6 t, slE false row]] [vI (if inB kd 1 4 = true then ofN s ⟨kd, t, row⟩ else 1)] [none, none] := by
  refine w_call md [] Tryz.func41 rfl ?_
  obtain ⟨q1, q2⟩ := zSc_b hs
  have hrl := hr.1
  by_cases hk : inB kd 1 4 = true
  · simp only [hk, if_true]
    have hK : T 88 [aI kd, aI 1, aI 4] [vB true] [none, none, none] := by
      have h := tx88 (n := kd) (l := 1) (h := 4)
      rwa [hk] at h
    by_cases ht : inB t 0 ((s.length : Int) - 1) = true
    · have hb := inB_iff.1 ht
      obtain ⟨k, rfl⟩ : ∃ k : Nat, t = k := ⟨t.toNat, by omega⟩
      have h2 : k < s.length := by omega
      have hd := q2 k h2
      have hpl := ppN_len (d := s[k])
      have hrl2 := rpN_len (d := s[k])
      have hI : T 88 [aI (k : Nat), aI 0, aI ((s.length : Int) - 1)] [vB true] [none, none, none] := by
        have h := tx88 (n := k) (l := 0) (h := (s.length : Int) - 1)
        rwa [ht] at h
      rw [ofN_y h2]
      by_cases h4 : kd = 4
      · subst h4
        have hR : T 65 [aE (ppN s[k]), aE row] [vB (roOk (ppN s[k]) row)] [none, none] := tx65
        cases e : roOk (ppN s[k]) row
        · rw [e] at hR
          rw [ofT_40 rfl e]
          repeat' ((conv => whnf); (first | (apply cx88; refine kl (hK) ?_) | (apply cx88; refine kl (hI) ?_) | (apply cx65; refine kl (hR) ?_) | refine And.intro ⟨by omega, by omega⟩ (Exists.intro _ (And.intro (rdI (i := k) (by omega) (by omega)) ?_)) | (apply cx64; refine kl (tx64 (d := s[k])) ?_) | refine k0 ?_ | refine jA fun _ => ?_ | refine jB fun _ => ?_ | refine kC (fun _ => ?_) fun _ => ?_ | (apply cx88; refine kl tx88 ?_) | (apply cx64; refine kl tx64 ?_) | (apply cx65; refine kl tx65 ?_) | (apply cx66; refine kl tx66 ?_) | (apply cx67; refine kl tx67 ?_) | refine jst ?_ | exact ⟨rfl, rfl⟩ | exact jV | fail))
        · rw [e] at hR
          rw [ofT_41 rfl e]
          repeat' ((conv => whnf); (first | (apply cx88; refine kl (hK) ?_) | (apply cx88; refine kl (hI) ?_) | (apply cx65; refine kl (hR) ?_) | refine And.intro ⟨by omega, by omega⟩ (Exists.intro _ (And.intro (rdI (i := k) (by omega) (by omega)) ?_)) | (apply cx64; refine kl (tx64 (d := s[k])) ?_) | refine k0 ?_ | refine jA fun _ => ?_ | refine jB fun _ => ?_ | refine kC (fun _ => ?_) fun _ => ?_ | (apply cx88; refine kl tx88 ?_) | (apply cx64; refine kl tx64 ?_) | (apply cx65; refine kl tx65 ?_) | (apply cx66; refine kl tx66 ?_) | (apply cx67; refine kl tx67 ?_) | refine jst ?_ | exact ⟨rfl, rfl⟩ | exact jV | fail))
      · have hR : T 65 [aE (rpN s[k]), aE row] [vB (roOk (rpN s[k]) row)] [none, none] := tx65
        have hL : T 67 [aE s, aI (k : Nat), aE row] [vB (lkN s[k] k row)] [none, none, none] := tx67 hf h2
        cases e : roOk (rpN s[k]) row
        · rw [e] at hR
          rw [ofT_n0 h4 e]
          repeat' ((conv => whnf); (first | (apply cx88; refine kl (hK) ?_) | (apply cx88; refine kl (hI) ?_) | (apply cx65; refine kl (hR) ?_) | refine And.intro ⟨by omega, by omega⟩ (Exists.intro _ (And.intro (rdI (i := k) (by omega) (by omega)) ?_)) | (apply cx66; refine kl (tx66 (d := s[k])) ?_) | refine k0 ?_ | refine jA fun _ => ?_ | refine jB fun _ => ?_ | refine kC (fun _ => ?_) fun _ => ?_ | (apply cx88; refine kl tx88 ?_) | (apply cx64; refine kl tx64 ?_) | (apply cx65; refine kl tx65 ?_) | (apply cx66; refine kl tx66 ?_) | (apply cx67; refine kl tx67 ?_) | refine jst ?_ | exact ⟨rfl, rfl⟩ | exact jV | fail))
        · rw [e] at hR
          cases e2 : lkN s[k] k row
          · rw [e2] at hL
            rw [ofT_n2 h4 e e2]
            repeat' ((conv => whnf); (first | (apply cx88; refine kl (hK) ?_) | (apply cx88; refine kl (hI) ?_) | (apply cx65; refine kl (hR) ?_) | refine And.intro ⟨by omega, by omega⟩ (Exists.intro _ (And.intro (rdI (i := k) (by omega) (by omega)) ?_)) | (apply cx66; refine kl (tx66 (d := s[k])) ?_) | (apply cx67; refine kl (hL) ?_) | refine k0 ?_ | refine jA fun _ => ?_ | refine jB fun _ => ?_ | refine kC (fun _ => ?_) fun _ => ?_ | (apply cx88; refine kl tx88 ?_) | (apply cx64; refine kl tx64 ?_) | (apply cx65; refine kl tx65 ?_) | (apply cx66; refine kl tx66 ?_) | (apply cx67; refine kl tx67 ?_) | refine jst ?_ | exact ⟨rfl, rfl⟩ | exact jV | fail))
          · rw [e2] at hL
            rw [ofT_n1 h4 e e2]
            repeat' ((conv => whnf); (first | (apply cx88; refine kl (hK) ?_) | (apply cx88; refine kl (hI) ?_) | (apply cx65; refine kl (hR) ?_) | refine And.intro ⟨by omega, by omega⟩ (Exists.intro _ (And.intro (rdI (i := k) (by omega) (by omega)) ?_)) | (apply cx66; refine kl (tx66 (d := s[k])) ?_) | (apply cx67; refine kl (hL) ?_) | refine k0 ?_ | refine jA fun _ => ?_ | refine jB fun _ => ?_ | refine kC (fun _ => ?_) fun _ => ?_ | (apply cx88; refine kl tx88 ?_) | (apply cx64; refine kl tx64 ?_) | (apply cx65; refine kl tx65 ?_) | (apply cx66; refine kl tx66 ?_) | (apply cx67; refine kl tx67 ?_) | refine jst ?_ | exact ⟨rfl, rfl⟩ | exact jV | fail))
    · have hI : T 88 [aI t, aI 0, aI ((s.length : Int) - 1)] [vB false] [none, none, none] := by
        have h := tx88 (n := t) (l := 0) (h := (s.length : Int) - 1)
        rwa [bNt ht] at h
      rw [ofN_n (o := ⟨kd, t, row⟩) fun q => ht (inB_iff.2 (by simp only at q; omega))]
      repeat' ((conv => whnf); (first | (apply cx88; refine kl (hK) ?_) | (apply cx88; refine kl (hI) ?_) | refine k0 ?_ | refine jA fun _ => ?_ | refine jB fun _ => ?_ | refine kC (fun _ => ?_) fun _ => ?_ | (apply cx88; refine kl tx88 ?_) | (apply cx64; refine kl tx64 ?_) | (apply cx65; refine kl tx65 ?_) | (apply cx66; refine kl tx66 ?_) | (apply cx67; refine kl tx67 ?_) | refine jst ?_ | exact ⟨rfl, rfl⟩ | exact jV | fail))
  · have hK : T 88 [aI kd, aI 1, aI 4] [vB false] [none, none, none] := by
      have h := tx88 (n := kd) (l := 1) (h := 4)
      rwa [bNt hk] at h
    simp only [bNt hk, Bool.false_eq_true, if_false]
    repeat' ((conv => whnf); (first | (apply cx88; refine kl (hK) ?_) | refine k0 ?_ | refine jA fun _ => ?_ | refine jB fun _ => ?_ | refine kC (fun _ => ?_) fun _ => ?_ | (apply cx88; refine kl tx88 ?_) | (apply cx64; refine kl tx64 ?_) | (apply cx65; refine kl tx65 ?_) | (apply cx66; refine kl tx66 ?_) | (apply cx67; refine kl tx67 ?_) | refine jst ?_ | exact ⟨rfl, rfl⟩ | exact jV | fail))

theorem cx41 {P : Program} {X : FuncId → List Arg → List (Bool × List Cell) → List (Option (List Cell)) → Prop} {a : List Arg} {Q : List (Bool × List Cell) → List (Option (List Cell)) → Prop} (h : ∃ b vals outs, a = b ∧ D P X (.call 41 b vals outs) ∧ Q vals outs) : CallS P X 41 a Q := ⟨h⟩

set_option maxHeartbeats 2000000 in
set_option maxRecDepth 100000 in
theorem tx96 {kd t : Int} {row : List Vl} {b : Bool} : T 96 [.val true [i6 kd, i6 t, slE false row], aB b] [vI (thN ⟨kd, t, row⟩ b)] [none, none] := by
  refine w_call md [] Tryz.func96 rfl ?_
  unfold thN
  simp only
  by_cases h1 : kd = 1
  · subst h1
    cases b
    · repeat' ((conv => whnf); (first | refine k0 ?_ | refine jA fun _ => ?_ | refine jB fun _ => ?_ | refine kC (fun _ => ?_) fun _ => ?_ | refine jst ?_ | exact ⟨rfl, rfl⟩ | exact jV | fail))
    · repeat' ((conv => whnf); (first | refine k0 ?_ | refine jA fun _ => ?_ | refine jB fun _ => ?_ | refine kC (fun _ => ?_) fun _ => ?_ | refine jst ?_ | exact ⟨rfl, rfl⟩ | exact jV | fail))
  · by_cases h3 : kd = 3
    · subst h3
      cases b
      · repeat' ((conv => whnf); (first | refine k0 ?_ | refine jA fun _ => ?_ | refine jB fun _ => ?_ | refine kC (fun _ => ?_) fun _ => ?_ | refine jst ?_ | exact ⟨rfl, rfl⟩ | exact jV | fail))
      · repeat' ((conv => whnf); (first | refine k0 ?_ | refine jA fun _ => ?_ | refine jB fun _ => ?_ | refine kC (fun _ => ?_) fun _ => ?_ | refine jst ?_ | exact ⟨rfl, rfl⟩ | exact jV | fail))
    · by_cases h4 : kd = 4
      · subst h4
        cases b
        · repeat' ((conv => whnf); (first | refine k0 ?_ | refine jA fun _ => ?_ | refine jB fun _ => ?_ | refine kC (fun _ => ?_) fun _ => ?_ | refine jst ?_ | exact ⟨rfl, rfl⟩ | exact jV | fail))
        · repeat' ((conv => whnf); (first | refine k0 ?_ | refine jA fun _ => ?_ | refine jB fun _ => ?_ | refine kC (fun _ => ?_) fun _ => ?_ | refine jst ?_ | exact ⟨rfl, rfl⟩ | exact jV | fail))
      · rw [if_neg (fun q => h1 q.1), if_neg (fun q => by rcases q.1 with q | q; exact h3 q; exact h4 q)]
        repeat' ((conv => whnf); (first | refine k0 ?_ | refine jA fun _ => ?_ | refine jB fun _ => ?_ | refine kC (fun _ => ?_) fun _ => ?_ | refine jst ?_ | exact ⟨rfl, rfl⟩ | exact jV | fail))

theorem cx96 {P : Program} {X : FuncId → List Arg → List (Bool × List Cell) → List (Option (List Cell)) → Prop} {a : List Arg} {Q : List (Bool × List Cell) → List (Option (List Cell)) → Prop} (h : ∃ b vals outs, a = b ∧ D P X (.call 96 b vals outs) ∧ Q vals outs) : CallS P X 96 a Q := ⟨h⟩

set_option maxHeartbeats 2000000 in
set_option maxRecDepth 100000 in
theorem tx44 {kd t : Int} {row : List Vl} {b : Bool} : T 44 [.val true [i6 kd, i6 t, slE false row], aB b] [vI (thN ⟨kd, t, row⟩ b)] [none, none] := by
  refine w_call md [] Tryz.func44 rfl ?_
  unfold thN
  simp only
  by_cases h1 : kd = 1
  · subst h1
    cases b
    · repeat' ((conv => whnf); (first | refine k0 ?_ | refine jA fun _ => ?_ | refine jB fun _ => ?_ | refine kC (fun _ => ?_) fun _ => ?_ | refine jst ?_ | exact ⟨rfl, rfl⟩ | exact jV | fail))
    · repeat' ((conv => whnf); (first | refine k0 ?_ | refine jA fun _ => ?_ | refine jB fun _ => ?_ | refine kC (fun _ => ?_) fun _ => ?_ | refine jst ?_ | exact ⟨rfl, rfl⟩ | exact jV | fail))
  · by_cases h3 : kd = 3
    · subst h3
      cases b
      · repeat' ((conv => whnf); (first | refine k0 ?_ | refine jA fun _ => ?_ | refine jB fun _ => ?_ | refine kC (fun _ => ?_) fun _ => ?_ | refine jst ?_ | exact ⟨rfl, rfl⟩ | exact jV | fail))
      · repeat' ((conv => whnf); (first | refine k0 ?_ | refine jA fun _ => ?_ | refine jB fun _ => ?_ | refine kC (fun _ => ?_) fun _ => ?_ | refine jst ?_ | exact ⟨rfl, rfl⟩ | exact jV | fail))
    · by_cases h4 : kd = 4
      · subst h4
        cases b
        · repeat' ((conv => whnf); (first | refine k0 ?_ | refine jA fun _ => ?_ | refine jB fun _ => ?_ | refine kC (fun _ => ?_) fun _ => ?_ | refine jst ?_ | exact ⟨rfl, rfl⟩ | exact jV | fail))
        · repeat' ((conv => whnf); (first | refine k0 ?_ | refine jA fun _ => ?_ | refine jB fun _ => ?_ | refine kC (fun _ => ?_) fun _ => ?_ | refine jst ?_ | exact ⟨rfl, rfl⟩ | exact jV | fail))
      · rw [if_neg (fun q => h1 q.1), if_neg (fun q => by rcases q.1 with q | q; exact h3 q; exact h4 q)]
        repeat' ((conv => whnf); (first | refine k0 ?_ | refine jA fun _ => ?_ | refine jB fun _ => ?_ | refine kC (fun _ => ?_) fun _ => ?_ | refine jst ?_ | exact ⟨rfl, rfl⟩ | exact jV | fail))

theorem cx44 {P : Program} {X : FuncId → List Arg → List (Bool × List Cell) → List (Option (List Cell)) → Prop} {a : List Arg} {Q : List (Bool × List Cell) → List (Option (List Cell)) → Prop} (h : ∃ b vals outs, a = b ∧ D P X (.call 44 b vals outs) ∧ Q vals outs) : CallS P X 44 a Q := ⟨h⟩

set_option maxHeartbeats 2000000 in
set_option maxRecDepth 100000 in
theorem tx95 {s : List Df} {kd : Int} {k : Nat} {row : List Vl} (h2 : k < s.length := by first | assumption | omega | (simp; done) | (simp; omega)) (hs : zSc s ≤ 2000000 := by first | assumption | omega | (simp; done) | (simp; omega)) (hr : row.length ≤ 2000000 := by first | assumption | omega | (simp; done) | (simp; omega)) : T 95 [aE s, .val true [i6 kd, i6 k, slE false row]] [(false, [slE false (kyD s[k] ⟨kd, k, row⟩)])] [none, none] := by
  refine w_call md [[3]] Tryz.func95 rfl ?_
  obtain ⟨q1, q2⟩ := zSc_b hs
  have hd := q2 k h2
  have hpl := ppN_len (d := s[k])
  by_cases h4 : kd = 4
  · subst h4
    rw [kyD_4 rfl]
    repeat' ((conv => whnf); (first | refine k0 ?_ | refine jA fun _ => ?_ | refine jB fun _ => ?_ | refine kC (fun _ => ?_) fun _ => ?_ | (apply cx76; refine kl tx76 ?_) | (apply cx80; refine kl tx80 ?_) | refine jst ?_ | exact ⟨rfl, rfl⟩ | exact jV | fail))
  · rw [kyD_n (o := ⟨kd, k, row⟩) h4]
    repeat' ((conv => whnf); (first | refine And.intro ⟨by omega, by omega⟩ (Exists.intro _ (And.intro (rdI (i := k) (by omega) (by omega)) ?_)) | (apply cx76; refine kl (tx76 (d := s[k])) ?_) | (apply cx80; refine kl (tx80 (l := ppN s[k]) (r := row)) ?_) | refine bstep (w_frz 131 (pkR (ppN s[k]) row)) ?_ | refine ⟨snc, cs false (pkR (ppN s[k]) row), cs_whole, ?_⟩ | refine k0 ?_ | refine jA fun _ => ?_ | refine jB fun _ => ?_ | refine kC (fun _ => ?_) fun _ => ?_ | (apply cx76; refine kl tx76 ?_) | (apply cx80; refine kl tx80 ?_) | refine jst ?_ | exact ⟨rfl, rfl⟩ | exact jV | fail))

theorem cx95 {P : Program} {X : FuncId → List Arg → List (Bool × List Cell) → List (Option (List Cell)) → Prop} {a : List Arg} {Q : List (Bool × List Cell) → List (Option (List Cell)) → Prop} (h : ∃ b vals outs, a = b ∧ D P X (.call 95 b vals outs) ∧ Q vals outs) : CallS P X 95 a Q := ⟨h⟩

set_option maxHeartbeats 2000000 in
set_option maxRecDepth 100000 in
theorem tx43 {s : List Df} {kd : Int} {k : Nat} {row : List Vl} (h2 : k < s.length := by first | assumption | omega | (simp; done) | (simp; omega)) (hs : zSc s ≤ 2000000 := by first | assumption | omega | (simp; done) | (simp; omega)) (hr : row.length ≤ 2000000 := by first | assumption | omega | (simp; done) | (simp; omega)) : T 43 [aE s, .val true [i6 kd, i6 k, slE false row]] [(false, [slE false (kyD s[k] ⟨kd, k, row⟩)])] [none, none] := by
  refine w_call md [[3]] Tryz.func43 rfl ?_
  obtain ⟨q1, q2⟩ := zSc_b hs
  have hd := q2 k h2
  have hpl := ppN_len (d := s[k])
  by_cases h4 : kd = 4
  · subst h4
    rw [kyD_4 rfl]
    repeat' ((conv => whnf); (first | refine k0 ?_ | refine jA fun _ => ?_ | refine jB fun _ => ?_ | refine kC (fun _ => ?_) fun _ => ?_ | (apply cx69; refine kl tx69 ?_) | refine jst ?_ | exact ⟨rfl, rfl⟩ | exact jV | fail))
  · rw [kyD_n (o := ⟨kd, k, row⟩) h4]
    repeat' ((conv => whnf); (first | refine And.intro ⟨by omega, by omega⟩ (Exists.intro _ (And.intro (rdI (i := k) (by omega) (by omega)) ?_)) | (apply cx69; refine kl (tx69 (d := s[k]) (r := row)) ?_) | refine bstep (w_frz 115 (pkR (ppN s[k]) row)) ?_ | refine ⟨snc, cs false (pkR (ppN s[k]) row), cs_whole, ?_⟩ | refine k0 ?_ | refine jA fun _ => ?_ | refine jB fun _ => ?_ | refine kC (fun _ => ?_) fun _ => ?_ | (apply cx69; refine kl tx69 ?_) | refine jst ?_ | exact ⟨rfl, rfl⟩ | exact jV | fail))

theorem cx43 {P : Program} {X : FuncId → List Arg → List (Bool × List Cell) → List (Option (List Cell)) → Prop} {a : List Arg} {Q : List (Bool × List Cell) → List (Option (List Cell)) → Prop} (h : ∃ b vals outs, a = b ∧ D P X (.call 43 b vals outs) ∧ Q vals outs) : CallS P X 43 a Q := ⟨h⟩

end Go.Proofs.YtopnaijeicknoaaGreatDoor
