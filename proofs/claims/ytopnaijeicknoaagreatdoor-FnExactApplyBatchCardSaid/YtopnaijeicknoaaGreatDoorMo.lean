/- Functions of the program, each with what it gives back. -/
import Derived.Test.YtopnaijeicknoaaGreatDoorKe
import Derived.Test.YtopnaijeicknoaaGreatDoorChecked
import Derived.IntWalk
import Derived.Test.YtopnaijeicknoaaGreatDoorMm
namespace Go.Proofs.YtopnaijeicknoaaGreatDoor
open Go Go.RowKit Go.IntWalk
open Enc (sz cs)
attribute [local irreducible] IntKind.wrap

/-! ### Values and plans -/
attribute [local irreducible] bOf fstI
abbrev se : ByteArray := ⟨#[]⟩
noncomputable def vlOk (v : Vl) : Bool :=
  if v.k = 0 then bOf (v.n = 0 ∧ v.s = se) else if v.k = 1 then bOf (inB v.n (-2147483648) 2147483647 = true ∧ v.s = se) else
  if v.k = 2 then bOf (inB v.n (-1000000000000000) 1000000000000000 = true ∧ v.s = se) else if v.k = 3 then bOf (v.n = 0 ∧ v.s.size ≤ 30) else
  if v.k = 4 then bOf (inB v.n 0 1 = true ∧ v.s = se) else false
section
variable {v : Vl}
theorem vl_0 (h : v.k = 0) : vlOk v = bOf (v.n = 0 ∧ v.s = se) := if_pos h
theorem vl_1 (h : v.k = 1) : vlOk v = bOf (inB v.n (-2147483648) 2147483647 = true ∧ v.s = se) := by unfold vlOk; rw [if_neg (by omega), if_pos h]
theorem vl_2 (h : v.k = 2) : vlOk v = bOf (inB v.n (-1000000000000000) 1000000000000000 = true ∧ v.s = se) := by unfold vlOk; rw [if_neg (by omega), if_neg (by omega), if_pos h]
theorem vl_3 (h : v.k = 3) : vlOk v = bOf (v.n = 0 ∧ v.s.size ≤ 30) := by unfold vlOk; rw [if_neg (by omega), if_neg (by omega), if_neg (by omega), if_pos h]
theorem vl_4 (h : v.k = 4) : vlOk v = bOf (inB v.n 0 1 = true ∧ v.s = se) := by unfold vlOk; rw [if_neg (by omega), if_neg (by omega), if_neg (by omega), if_neg (by omega), if_pos h]
theorem vl_5 (h0 : ¬ v.k = 0) (h1 : ¬ v.k = 1) (h2 : ¬ v.k = 2) (h3 : ¬ v.k = 3) (h4 : ¬ v.k = 4) : vlOk v = false := by unfold vlOk; rw [if_neg h0, if_neg h1, if_neg h2, if_neg h3, if_neg h4]
end

set_option maxHeartbeats 2000000 in
set_option maxRecDepth 100000 in
theorem tx171 {v : Vl} (hv : v.s.size ≤ 2000000 := by first | assumption | omega | (simp; done) | (simp; omega)) : T 171 [.val true (vlC v)] [vB (vlOk v)] [none] := by
  refine w_call md [] Tryz.func171 rfl ?_
  by_cases e0 : v.k = 0
  · rw [vl_0 e0]
    repeat' ((conv => whnf); (first | refine k0 ?_ | refine jA fun _ => ?_ | refine jB fun _ => ?_ | refine kC (fun _ => ?_) fun _ => ?_ | (apply cx48; refine kl tx48 ?_) | refine jst ?_ | exact ⟨rfl, rfl⟩ | exact jV | fail))
    all_goals first | exact ⟨vB1 (bOf_y ⟨by assumption, ba_eq (by assumption)⟩), rfl⟩ | exact ⟨vB0 (bOf_n fun q => by first | exact absurd q.1 (by assumption) | exact bft (by assumption) q.1 | exact absurd (congrArg ByteArray.toList q.2) (by assumption)), rfl⟩
  · skip
    by_cases e1 : v.k = 1
    · rw [vl_1 e1]
      repeat' ((conv => whnf); (first | refine k0 ?_ | refine jA fun _ => ?_ | refine jB fun _ => ?_ | refine kC (fun _ => ?_) fun _ => ?_ | (apply cx48; refine kl tx48 ?_) | refine jst ?_ | exact ⟨rfl, rfl⟩ | exact jV | fail))
      all_goals first | exact ⟨vB1 (bOf_y ⟨by assumption, ba_eq (by assumption)⟩), rfl⟩ | exact ⟨vB0 (bOf_n fun q => by first | exact absurd q.1 (by assumption) | exact bft (by assumption) q.1 | exact absurd (congrArg ByteArray.toList q.2) (by assumption)), rfl⟩
    · skip
      by_cases e2 : v.k = 2
      · rw [vl_2 e2]
        repeat' ((conv => whnf); (first | refine k0 ?_ | refine jA fun _ => ?_ | refine jB fun _ => ?_ | refine kC (fun _ => ?_) fun _ => ?_ | (apply cx48; refine kl tx48 ?_) | refine jst ?_ | exact ⟨rfl, rfl⟩ | exact jV | fail))
        all_goals first | exact ⟨vB1 (bOf_y ⟨by assumption, ba_eq (by assumption)⟩), rfl⟩ | exact ⟨vB0 (bOf_n fun q => by first | exact absurd q.1 (by assumption) | exact bft (by assumption) q.1 | exact absurd (congrArg ByteArray.toList q.2) (by assumption)), rfl⟩
      · skip
        by_cases e3 : v.k = 3
        · rw [vl_3 e3]
          repeat' ((conv => whnf); (first | refine k0 ?_ | refine jA fun _ => ?_ | refine jB fun _ => ?_ | refine kC (fun _ => ?_) fun _ => ?_ | (apply cx48; refine kl tx48 ?_) | refine jst ?_ | exact ⟨rfl, rfl⟩ | exact jV | fail))
          all_goals first | exact ⟨vB1 (bOf_y ⟨by assumption, by omega⟩), rfl⟩ | exact ⟨vB0 (bOf_n fun q => by omega), rfl⟩
        · skip
          by_cases e4 : v.k = 4
          · rw [vl_4 e4]
            repeat' ((conv => whnf); (first | refine k0 ?_ | refine jA fun _ => ?_ | refine jB fun _ => ?_ | refine kC (fun _ => ?_) fun _ => ?_ | (apply cx48; refine kl tx48 ?_) | refine jst ?_ | exact ⟨rfl, rfl⟩ | exact jV | fail))
            all_goals first | exact ⟨vB1 (bOf_y ⟨by assumption, ba_eq (by assumption)⟩), rfl⟩ | exact ⟨vB0 (bOf_n fun q => by first | exact absurd q.1 (by assumption) | exact bft (by assumption) q.1 | exact absurd (congrArg ByteArray.toList q.2) (by assumption)), rfl⟩
          · skip
            rw [vl_5 e0 e1 e2 e3 e4]
            repeat' ((conv => whnf); (first | refine k0 ?_ | refine jA fun _ => ?_ | refine jB fun _ => ?_ | refine kC (fun _ => ?_) fun _ => ?_ | (apply cx48; refine kl tx48 ?_) | refine jst ?_ | exact ⟨rfl, rfl⟩ | exact jV | fail))

theorem cx171 {P : Program} {X : FuncId → List Arg → List (Bool × List Cell) → List (Option (List Cell)) → Prop} {a : List Arg} {Q : List (Bool × List Cell) → List (Option (List Cell)) → Prop} (h : ∃ b vals outs, a = b ∧ D P X (.call 171 b vals outs) ∧ Q vals outs) : CallS P X 171 a Q := ⟨h⟩

set_option maxHeartbeats 2000000 in
set_option maxRecDepth 100000 in
theorem tx163 {v : Vl} (hv : v.s.size ≤ 2000000 := by first | assumption | omega | (simp; done) | (simp; omega)) : T 163 [.val true (vlC v)] [vB (vlOk v)] [none] := by
  refine w_call md [] Tryz.func163 rfl ?_
  by_cases e0 : v.k = 0
  · rw [vl_0 e0]
    repeat' ((conv => whnf); (first | refine k0 ?_ | refine jA fun _ => ?_ | refine jB fun _ => ?_ | refine kC (fun _ => ?_) fun _ => ?_ | (apply cx88; refine kl tx88 ?_) | refine jst ?_ | exact ⟨rfl, rfl⟩ | exact jV | fail))
    all_goals first | exact ⟨vB1 (bOf_y ⟨by assumption, ba_eq (by assumption)⟩), rfl⟩ | exact ⟨vB0 (bOf_n fun q => by first | exact absurd q.1 (by assumption) | exact bft (by assumption) q.1 | exact absurd (congrArg ByteArray.toList q.2) (by assumption)), rfl⟩
  · skip
    by_cases e1 : v.k = 1
    · rw [vl_1 e1]
      repeat' ((conv => whnf); (first | refine k0 ?_ | refine jA fun _ => ?_ | refine jB fun _ => ?_ | refine kC (fun _ => ?_) fun _ => ?_ | (apply cx88; refine kl tx88 ?_) | refine jst ?_ | exact ⟨rfl, rfl⟩ | exact jV | fail))
      all_goals first | exact ⟨vB1 (bOf_y ⟨by assumption, ba_eq (by assumption)⟩), rfl⟩ | exact ⟨vB0 (bOf_n fun q => by first | exact absurd q.1 (by assumption) | exact bft (by assumption) q.1 | exact absurd (congrArg ByteArray.toList q.2) (by assumption)), rfl⟩
    · skip
      by_cases e2 : v.k = 2
      · rw [vl_2 e2]
        repeat' ((conv => whnf); (first | refine k0 ?_ | refine jA fun _ => ?_ | refine jB fun _ => ?_ | refine kC (fun _ => ?_) fun _ => ?_ | (apply cx88; refine kl tx88 ?_) | refine jst ?_ | exact ⟨rfl, rfl⟩ | exact jV | fail))
        all_goals first | exact ⟨vB1 (bOf_y ⟨by assumption, ba_eq (by assumption)⟩), rfl⟩ | exact ⟨vB0 (bOf_n fun q => by first | exact absurd q.1 (by assumption) | exact bft (by assumption) q.1 | exact absurd (congrArg ByteArray.toList q.2) (by assumption)), rfl⟩
      · skip
        by_cases e3 : v.k = 3
        · rw [vl_3 e3]
          repeat' ((conv => whnf); (first | refine k0 ?_ | refine jA fun _ => ?_ | refine jB fun _ => ?_ | refine kC (fun _ => ?_) fun _ => ?_ | (apply cx88; refine kl tx88 ?_) | refine jst ?_ | exact ⟨rfl, rfl⟩ | exact jV | fail))
          all_goals first | exact ⟨vB1 (bOf_y ⟨by assumption, by omega⟩), rfl⟩ | exact ⟨vB0 (bOf_n fun q => by omega), rfl⟩
        · skip
          by_cases e4 : v.k = 4
          · rw [vl_4 e4]
            repeat' ((conv => whnf); (first | refine k0 ?_ | refine jA fun _ => ?_ | refine jB fun _ => ?_ | refine kC (fun _ => ?_) fun _ => ?_ | (apply cx88; refine kl tx88 ?_) | refine jst ?_ | exact ⟨rfl, rfl⟩ | exact jV | fail))
            all_goals first | exact ⟨vB1 (bOf_y ⟨by assumption, ba_eq (by assumption)⟩), rfl⟩ | exact ⟨vB0 (bOf_n fun q => by first | exact absurd q.1 (by assumption) | exact bft (by assumption) q.1 | exact absurd (congrArg ByteArray.toList q.2) (by assumption)), rfl⟩
          · skip
            rw [vl_5 e0 e1 e2 e3 e4]
            repeat' ((conv => whnf); (first | refine k0 ?_ | refine jA fun _ => ?_ | refine jB fun _ => ?_ | refine kC (fun _ => ?_) fun _ => ?_ | (apply cx88; refine kl tx88 ?_) | refine jst ?_ | exact ⟨rfl, rfl⟩ | exact jV | fail))

theorem cx163 {P : Program} {X : FuncId → List Arg → List (Bool × List Cell) → List (Option (List Cell)) → Prop} {a : List Arg} {Q : List (Bool × List Cell) → List (Option (List Cell)) → Prop} (h : ∃ b vals outs, a = b ∧ D P X (.call 163 b vals outs) ∧ Q vals outs) : CallS P X 163 a Q := ⟨h⟩

attribute [local irreducible] vlOk
noncomputable def ftV (p : Prt) (v : Vl) : Bool := vlOk v && bOf (v.k = p.type ∧ ¬ v.k = 0 ∨ v.k = 0 ∧ p.null = true)
theorem ftV_f {p : Prt} {v : Vl} (h : vlOk v = false) : ftV p v = false := by unfold ftV; rw [h]; rfl
theorem ftV_t {p : Prt} {v : Vl} (h : vlOk v = true) : ftV p v = bOf (v.k = p.type ∧ ¬ v.k = 0 ∨ v.k = 0 ∧ p.null = true) := by unfold ftV; rw [h]; rfl
noncomputable abbrev ptV (p : Prt) : Bool := bOf (inB p.col 0 9 = true ∧ inB p.type 1 4 = true)

set_option maxHeartbeats 2000000 in
set_option maxRecDepth 100000 in
theorem tx153 {p : Prt} {v : Vl} (hv : v.s.size ≤ 2000000 := by first | assumption | omega | (simp; done) | (simp; omega)) : T 153 [.val true (prtC p), .val true (vlC v)] [vB (ftV p v)] [none, none] := by
  refine w_call md [] Tryz.func153 rfl ?_
  obtain ⟨col, type, null, desc⟩ := p
  cases hk : vlOk v
  · rw [ftV_f hk]
    have hV : T 171 [.val true (vlC v)] [vB false] [none] := by
      have h := tx171 (v := v)
      rwa [hk] at h
    repeat' ((conv => whnf); (first | (apply cx171; refine kl (hV) ?_) | refine k0 ?_ | refine jA fun _ => ?_ | refine jB fun _ => ?_ | refine kC (fun _ => ?_) fun _ => ?_ | (apply cx171; refine kl tx171 ?_) | refine jst ?_ | exact ⟨rfl, rfl⟩ | exact jV | fail))
  · rw [ftV_t hk]
    have hV : T 171 [.val true (vlC v)] [vB true] [none] := by
      have h := tx171 (v := v)
      rwa [hk] at h
    cases null
    · repeat' ((conv => whnf); (first | (apply cx171; refine kl (hV) ?_) | refine k0 ?_ | refine jA fun _ => ?_ | refine jB fun _ => ?_ | refine kC (fun _ => ?_) fun _ => ?_ | (apply cx171; refine kl tx171 ?_) | refine jst ?_ | exact ⟨rfl, rfl⟩ | exact jV | fail))
      all_goals first | exact ⟨vB1 (bOf_y (.inl ⟨by assumption, by assumption⟩)), rfl⟩ | exact ⟨vB0 (bOf_n fun q => by rcases q with q | q <;> first | exact absurd q.1 (by assumption) | exact absurd (by assumption) q.2 | exact absurd q.2 Bool.false_ne_true), rfl⟩
    · repeat' ((conv => whnf); (first | (apply cx171; refine kl (hV) ?_) | refine k0 ?_ | refine jA fun _ => ?_ | refine jB fun _ => ?_ | refine kC (fun _ => ?_) fun _ => ?_ | (apply cx171; refine kl tx171 ?_) | refine jst ?_ | exact ⟨rfl, rfl⟩ | exact jV | fail))
      all_goals first | exact ⟨vB1 (bOf_y (.inl ⟨by assumption, by assumption⟩)), rfl⟩ | exact ⟨vB1 (bOf_y (.inr ⟨by assumption, rfl⟩)), rfl⟩ | exact ⟨vB0 (bOf_n fun q => by rcases q with q | q <;> first | exact absurd q.1 (by assumption) | exact absurd (by assumption) q.2), rfl⟩

theorem cx153 {P : Program} {X : FuncId → List Arg → List (Bool × List Cell) → List (Option (List Cell)) → Prop} {a : List Arg} {Q : List (Bool × List Cell) → List (Option (List Cell)) → Prop} (h : ∃ b vals outs, a = b ∧ D P X (.call 153 b vals outs) ∧ Q vals outs) : CallS P X 153 a Q := ⟨h⟩

set_option maxHeartbeats 2000000 in
set_option maxRecDepth 100000 in
theorem tx142 {p : Prt} {v : Vl} (hv : v.s.size ≤ 2000000 := by first | assumption | omega | (simp; done) | (simp; omega)) : T 142 [.val true (prtC p), .val true (vlC v)] [vB (ftV p v)] [none, none] := by
  refine w_call md [] Tryz.func142 rfl ?_
  obtain ⟨col, type, null, desc⟩ := p
  cases hk : vlOk v
  · rw [ftV_f hk]
    have hV : T 163 [.val true (vlC v)] [vB false] [none] := by
      have h := tx163 (v := v)
      rwa [hk] at h
    repeat' ((conv => whnf); (first | (apply cx163; refine kl (hV) ?_) | refine k0 ?_ | refine jA fun _ => ?_ | refine jB fun _ => ?_ | refine kC (fun _ => ?_) fun _ => ?_ | (apply cx163; refine kl tx163 ?_) | refine jst ?_ | exact ⟨rfl, rfl⟩ | exact jV | fail))
  · rw [ftV_t hk]
    have hV : T 163 [.val true (vlC v)] [vB true] [none] := by
      have h := tx163 (v := v)
      rwa [hk] at h
    cases null
    · repeat' ((conv => whnf); (first | (apply cx163; refine kl (hV) ?_) | refine k0 ?_ | refine jA fun _ => ?_ | refine jB fun _ => ?_ | refine kC (fun _ => ?_) fun _ => ?_ | (apply cx163; refine kl tx163 ?_) | refine jst ?_ | exact ⟨rfl, rfl⟩ | exact jV | fail))
      all_goals first | exact ⟨vB1 (bOf_y (.inl ⟨by assumption, by assumption⟩)), rfl⟩ | exact ⟨vB0 (bOf_n fun q => by rcases q with q | q <;> first | exact absurd q.1 (by assumption) | exact absurd (by assumption) q.2 | exact absurd q.2 Bool.false_ne_true), rfl⟩
    · repeat' ((conv => whnf); (first | (apply cx163; refine kl (hV) ?_) | refine k0 ?_ | refine jA fun _ => ?_ | refine jB fun _ => ?_ | refine kC (fun _ => ?_) fun _ => ?_ | (apply cx163; refine kl tx163 ?_) | refine jst ?_ | exact ⟨rfl, rfl⟩ | exact jV | fail))
      all_goals first | exact ⟨vB1 (bOf_y (.inl ⟨by assumption, by assumption⟩)), rfl⟩ | exact ⟨vB1 (bOf_y (.inr ⟨by assumption, rfl⟩)), rfl⟩ | exact ⟨vB0 (bOf_n fun q => by rcases q with q | q <;> first | exact absurd q.1 (by assumption) | exact absurd (by assumption) q.2), rfl⟩

theorem cx142 {P : Program} {X : FuncId → List Arg → List (Bool × List Cell) → List (Option (List Cell)) → Prop} {a : List Arg} {Q : List (Bool × List Cell) → List (Option (List Cell)) → Prop} (h : ∃ b vals outs, a = b ∧ D P X (.call 142 b vals outs) ∧ Q vals outs) : CallS P X 142 a Q := ⟨h⟩

set_option maxRecDepth 100000 in
theorem tx152 {p : Prt} : T 152 [.val true (prtC p)] [vB (ptV p)] [none] := by
  refine w_call md [] Tryz.func152 rfl ?_
  repeat' ((conv => whnf); (first | refine k0 ?_ | refine jA fun _ => ?_ | refine jB fun _ => ?_ | refine kC (fun _ => ?_) fun _ => ?_ | (apply cx48; refine kl tx48 ?_) | refine jst ?_ | exact ⟨rfl, rfl⟩ | exact jV | fail))
  all_goals first | exact ⟨vB1 (bOf_y ⟨by assumption, by assumption⟩), rfl⟩ | exact ⟨vB0 (bOf_n fun q => by first | exact bft (by assumption) q.1 | exact bft (by assumption) q.2), rfl⟩

theorem cx152 {P : Program} {X : FuncId → List Arg → List (Bool × List Cell) → List (Option (List Cell)) → Prop} {a : List Arg} {Q : List (Bool × List Cell) → List (Option (List Cell)) → Prop} (h : ∃ b vals outs, a = b ∧ D P X (.call 152 b vals outs) ∧ Q vals outs) : CallS P X 152 a Q := ⟨h⟩

set_option maxRecDepth 100000 in
theorem tx141 {p : Prt} : T 141 [.val true (prtC p)] [vB (ptV p)] [none] := by
  refine w_call md [] Tryz.func141 rfl ?_
  repeat' ((conv => whnf); (first | refine k0 ?_ | refine jA fun _ => ?_ | refine jB fun _ => ?_ | refine kC (fun _ => ?_) fun _ => ?_ | (apply cx88; refine kl tx88 ?_) | refine jst ?_ | exact ⟨rfl, rfl⟩ | exact jV | fail))
  all_goals first | exact ⟨vB1 (bOf_y ⟨by assumption, by assumption⟩), rfl⟩ | exact ⟨vB0 (bOf_n fun q => by first | exact bft (by assumption) q.1 | exact bft (by assumption) q.2), rfl⟩

theorem cx141 {P : Program} {X : FuncId → List Arg → List (Bool × List Cell) → List (Option (List Cell)) → Prop} {a : List Arg} {Q : List (Bool × List Cell) → List (Option (List Cell)) → Prop} (h : ∃ b vals outs, a = b ∧ D P X (.call 141 b vals outs) ∧ Q vals outs) : CallS P X 141 a Q := ⟨h⟩

structure PlOk (l : List Prt) : Prop where
  len : l.length ≤ 6
  prt : ∀ i (h : i < l.length), ptV l[i] = true
noncomputable abbrev plOk (l : List Prt) : Bool := bOf (PlOk l)
structure FaOk (l : List Prt) (r : List Vl) : Prop where
  len : r.length ≤ l.length
  fit : ∀ i (h : i < r.length) (h2 : i < l.length), ftV l[i] r[i] = true
noncomputable abbrev faOk (l : List Prt) (r : List Vl) : Bool := bOf (FaOk l r)
noncomputable abbrev roOk (l : List Prt) (r : List Vl) : Bool := bOf (plOk l = true ∧ r.length = l.length ∧ faOk l r = true)

set_option maxRecDepth 100000 in
theorem tx125 {l : List Prt} (hl : l.length ≤ 2000000 := by first | assumption | omega | (simp; done) | (simp; omega)) : T 125 [aE l] [vB (plOk l)] [none] := by
  refine w_call md [] Tryz.func125 rfl ?_
  repeat' ((conv => whnf); (first | refine k0 ?_ | refine jA fun _ => ?_ | refine jB fun _ => ?_ | refine kC (fun _ => ?_) fun _ => ?_ | (apply cx152; refine kl tx152 ?_) | refine jst ?_ | exact ⟨rfl, rfl⟩ | exact jV | fail))
  conv => whnf
  refine loopk (ι := Nat) (fun i => i ≤ l.length ∧ (i ≤ 6 ∧ ∀ j (h : j < l.length), j < i → ptV l[j] = true)) (fun i => l.length - i) (0) [5, 6] (fun i => [(7, .v false [i6 i])]) [none] ?_
  refine ⟨⟨by omega, by omega, by intros; omega⟩, ?_, fun i hi => ?_⟩
  · exact jw []
  · repeat' ((conv => whnf); (first | refine k0 ?_ | (apply cx152; refine kl tx152 ?_) | refine jst ?_ | exact ⟨rfl, rfl⟩ | exact jV | fail))
    conv => whnf
    refine ⟨fun hlt => ?_, fun hge => ?_⟩
    · have hi2 : i < l.length := by omega
      by_cases h6 : 6 ≤ i
      · repeat' ((conv => whnf); (first | refine k0 ?_ | refine jA fun _ => ?_ | refine jB fun _ => ?_ | refine kC (fun _ => ?_) fun _ => ?_ | (apply cx152; refine kl tx152 ?_) | refine jst ?_ | exact ⟨rfl, rfl⟩ | exact jV | fail))
        exact ⟨vB0 (bOf_n fun q => by have := q.len; omega), rfl⟩
      · repeat' ((conv => whnf); (first | (apply cx152; refine kl (tx152 (p := l[i])) ?_) | refine k0 ?_ | refine jA fun _ => ?_ | refine jB fun _ => ?_ | refine kC (fun _ => ?_) fun _ => ?_ | (apply cx152; refine kl tx152 ?_) | refine jst ?_ | exact ⟨rfl, rfl⟩ | exact jV | fail))
        · refine ⟨⟨i + 1, by omega, by omega, all_suc hi.2.2 hi2 (by assumption)⟩, by simp only; omega, ?_⟩
          exact jw []
        · exact ⟨vB0 (bOf_n fun q => bft (by assumption) (q.prt i hi2)), rfl⟩
    · obtain rfl : i = l.length := by omega
      repeat' ((conv => whnf); (first | refine k0 ?_ | refine jA fun _ => ?_ | refine jB fun _ => ?_ | refine kC (fun _ => ?_) fun _ => ?_ | (apply cx152; refine kl tx152 ?_) | refine jst ?_ | exact ⟨rfl, rfl⟩ | exact jV | fail))
      exact ⟨vB1 (bOf_y ⟨hi.2.1, fun j h => hi.2.2 j h h⟩), rfl⟩

theorem cx125 {P : Program} {X : FuncId → List Arg → List (Bool × List Cell) → List (Option (List Cell)) → Prop} {a : List Arg} {Q : List (Bool × List Cell) → List (Option (List Cell)) → Prop} (h : ∃ b vals outs, a = b ∧ D P X (.call 125 b vals outs) ∧ Q vals outs) : CallS P X 125 a Q := ⟨h⟩

set_option maxRecDepth 100000 in
theorem tx108 {l : List Prt} (hl : l.length ≤ 2000000 := by first | assumption | omega | (simp; done) | (simp; omega)) : T 108 [aE l] [vB (plOk l)] [none] := by
  refine w_call md [] Tryz.func108 rfl ?_
  repeat' ((conv => whnf); (first | refine k0 ?_ | refine jA fun _ => ?_ | refine jB fun _ => ?_ | refine kC (fun _ => ?_) fun _ => ?_ | (apply cx141; refine kl tx141 ?_) | refine jst ?_ | exact ⟨rfl, rfl⟩ | exact jV | fail))
  conv => whnf
  refine loopk (ι := Nat) (fun i => i ≤ l.length ∧ ∀ j (h : j < l.length), j < i → ptV l[j] = true) (fun i => l.length - i) (0) [0] (fun i => [(3, .v false [i6 i])]) [none] ?_
  refine ⟨⟨by omega, by intros; omega⟩, ?_, fun i hi => ?_⟩
  · exact jw []
  · repeat' ((conv => whnf); (first | refine k0 ?_ | (apply cx141; refine kl tx141 ?_) | refine jst ?_ | exact ⟨rfl, rfl⟩ | exact jV | fail))
    conv => whnf
    refine ⟨fun hlt => ?_, fun hge => ?_⟩
    · have hi2 : i < l.length := by omega
      repeat' ((conv => whnf); (first | (apply cx141; refine kl (tx141 (p := l[i])) ?_) | refine k0 ?_ | refine jA fun _ => ?_ | refine jB fun _ => ?_ | refine kC (fun _ => ?_) fun _ => ?_ | (apply cx141; refine kl tx141 ?_) | refine jst ?_ | exact ⟨rfl, rfl⟩ | exact jV | fail))
      · refine ⟨⟨i + 1, by omega, all_suc hi.2 hi2 (by assumption)⟩, by simp only; omega, ?_⟩
        exact jw []
      · exact ⟨vB0 (bOf_n fun q => bft (by assumption) (q.prt i hi2)), rfl⟩
    · obtain rfl : i = l.length := by omega
      repeat' ((conv => whnf); (first | refine k0 ?_ | refine jA fun _ => ?_ | refine jB fun _ => ?_ | refine kC (fun _ => ?_) fun _ => ?_ | (apply cx141; refine kl tx141 ?_) | refine jst ?_ | exact ⟨rfl, rfl⟩ | exact jV | fail))
      · exact ⟨vB1 (bOf_y ⟨by omega, fun j h => hi.2 j h h⟩), rfl⟩
      · exact ⟨vB0 (bOf_n fun q => by have := q.len; omega), rfl⟩

theorem cx108 {P : Program} {X : FuncId → List Arg → List (Bool × List Cell) → List (Option (List Cell)) → Prop} {a : List Arg} {Q : List (Bool × List Cell) → List (Option (List Cell)) → Prop} (h : ∃ b vals outs, a = b ∧ D P X (.call 108 b vals outs) ∧ Q vals outs) : CallS P X 108 a Q := ⟨h⟩

set_option maxRecDepth 100000 in
theorem tx126 {l : List Prt} {r : List Vl} (hl : l.length ≤ 2000000 := by first | assumption | omega | (simp; done) | (simp; omega)) (hr : r.length ≤ 2000000 ∧ ∀ i (h : i < r.length), r[i].s.size ≤ 2000000 := by first | assumption | omega | (simp; done) | (simp; omega)) : T 126 [aE l, aE r] [vB (faOk l r)] [none, none] := by
  refine w_call md [] Tryz.func126 rfl ?_
  obtain ⟨hr, hrs⟩ := hr
  by_cases hlen : r.length ≤ l.length
  · repeat' ((conv => whnf); (first | refine k0 ?_ | refine jA fun _ => ?_ | refine jB fun _ => ?_ | refine kC (fun _ => ?_) fun _ => ?_ | (apply cx153; refine kl tx153 ?_) | refine jst ?_ | exact ⟨rfl, rfl⟩ | exact jV | fail))
    conv => whnf
    refine loopk (ι := Nat) (fun i => i ≤ r.length ∧ ∀ j (h : j < r.length), j < i → ∀ (h2 : j < l.length), ftV l[j] r[j] = true) (fun i => r.length - i) (0) [0, 12, 13] (fun i => [(14, .v false [i6 i])]) [none, none] ?_
    refine ⟨⟨by omega, by intros; omega⟩, ?_, fun i hi => ?_⟩
    · exact jw []
    · repeat' ((conv => whnf); (first | refine k0 ?_ | (apply cx153; refine kl tx153 ?_) | refine jst ?_ | exact ⟨rfl, rfl⟩ | exact jV | fail))
      conv => whnf
      refine ⟨fun hlt => ?_, fun hge => ?_⟩
      · have hi2 : i < r.length := by omega
        have hi3 : i < l.length := by omega
        have hs := hrs i hi2
        repeat' ((conv => whnf); (first | (apply cx153; refine kl (tx153 (p := l[i]) (v := r[i])) ?_) | refine k0 ?_ | refine jA fun _ => ?_ | refine jB fun _ => ?_ | refine kC (fun _ => ?_) fun _ => ?_ | (apply cx153; refine kl tx153 ?_) | refine jst ?_ | exact ⟨rfl, rfl⟩ | exact jV | fail))
        · refine ⟨⟨i + 1, by omega, all_suc hi.2 hi2 (fun _ => by assumption)⟩, by simp only; omega, ?_⟩
          exact jw []
        · exact ⟨vB0 (bOf_n fun q => bft (by assumption) (q.fit i hi2 hi3)), rfl⟩
      · obtain rfl : i = r.length := by omega
        repeat' ((conv => whnf); (first | refine k0 ?_ | refine jA fun _ => ?_ | refine jB fun _ => ?_ | refine kC (fun _ => ?_) fun _ => ?_ | (apply cx153; refine kl tx153 ?_) | refine jst ?_ | exact ⟨rfl, rfl⟩ | exact jV | fail))
        exact ⟨vB1 (bOf_y ⟨hlen, fun j h h2 => hi.2 j h h h2⟩), rfl⟩
  · repeat' ((conv => whnf); (first | refine k0 ?_ | refine jA fun _ => ?_ | refine jB fun _ => ?_ | refine kC (fun _ => ?_) fun _ => ?_ | (apply cx153; refine kl tx153 ?_) | refine jst ?_ | exact ⟨rfl, rfl⟩ | exact jV | fail))
    exact ⟨vB0 (bOf_n fun q => hlen q.len), rfl⟩

theorem cx126 {P : Program} {X : FuncId → List Arg → List (Bool × List Cell) → List (Option (List Cell)) → Prop} {a : List Arg} {Q : List (Bool × List Cell) → List (Option (List Cell)) → Prop} (h : ∃ b vals outs, a = b ∧ D P X (.call 126 b vals outs) ∧ Q vals outs) : CallS P X 126 a Q := ⟨h⟩

set_option maxRecDepth 100000 in
theorem tx109 {l : List Prt} {r : List Vl} (hl : l.length ≤ 2000000 := by first | assumption | omega | (simp; done) | (simp; omega)) (hr : r.length ≤ 2000000 ∧ ∀ i (h : i < r.length), r[i].s.size ≤ 2000000 := by first | assumption | omega | (simp; done) | (simp; omega)) : T 109 [aE l, aE r] [vB (faOk l r)] [none, none] := by
  refine w_call md [] Tryz.func109 rfl ?_
  obtain ⟨hr, hrs⟩ := hr
  by_cases hlen : r.length ≤ l.length
  · repeat' ((conv => whnf); (first | refine k0 ?_ | refine jA fun _ => ?_ | refine jB fun _ => ?_ | refine kC (fun _ => ?_) fun _ => ?_ | (apply cx142; refine kl tx142 ?_) | refine jst ?_ | exact ⟨rfl, rfl⟩ | exact jV | fail))
    conv => whnf
    refine loopk (ι := Nat) (fun i => i ≤ r.length ∧ ∀ j (h : j < r.length), j < i → ∀ (h2 : j < l.length), ftV l[j] r[j] = true) (fun i => r.length - i) (0) [0, 1] (fun i => [(5, .v false [i6 i])]) [none, none] ?_
    refine ⟨⟨by omega, by intros; omega⟩, ?_, fun i hi => ?_⟩
    · exact jw []
    · repeat' ((conv => whnf); (first | refine k0 ?_ | (apply cx142; refine kl tx142 ?_) | refine jst ?_ | exact ⟨rfl, rfl⟩ | exact jV | fail))
      conv => whnf
      refine ⟨fun hlt => ?_, fun hge => ?_⟩
      · have hi2 : i < r.length := by omega
        have hi3 : i < l.length := by omega
        have hs := hrs i hi2
        repeat' ((conv => whnf); (first | (apply cx142; refine kl (tx142 (p := l[i]) (v := r[i])) ?_) | refine k0 ?_ | refine jA fun _ => ?_ | refine jB fun _ => ?_ | refine kC (fun _ => ?_) fun _ => ?_ | (apply cx142; refine kl tx142 ?_) | refine jst ?_ | exact ⟨rfl, rfl⟩ | exact jV | fail))
        · refine ⟨⟨i + 1, by omega, all_suc hi.2 hi2 (fun _ => by assumption)⟩, by simp only; omega, ?_⟩
          exact jw []
        · exact ⟨vB0 (bOf_n fun q => bft (by assumption) (q.fit i hi2 hi3)), rfl⟩
      · obtain rfl : i = r.length := by omega
        repeat' ((conv => whnf); (first | refine k0 ?_ | refine jA fun _ => ?_ | refine jB fun _ => ?_ | refine kC (fun _ => ?_) fun _ => ?_ | (apply cx142; refine kl tx142 ?_) | refine jst ?_ | exact ⟨rfl, rfl⟩ | exact jV | fail))
        exact ⟨vB1 (bOf_y ⟨hlen, fun j h h2 => hi.2 j h h h2⟩), rfl⟩
  · repeat' ((conv => whnf); (first | refine k0 ?_ | refine jA fun _ => ?_ | refine jB fun _ => ?_ | refine kC (fun _ => ?_) fun _ => ?_ | (apply cx142; refine kl tx142 ?_) | refine jst ?_ | exact ⟨rfl, rfl⟩ | exact jV | fail))
    exact ⟨vB0 (bOf_n fun q => hlen q.len), rfl⟩

theorem cx109 {P : Program} {X : FuncId → List Arg → List (Bool × List Cell) → List (Option (List Cell)) → Prop} {a : List Arg} {Q : List (Bool × List Cell) → List (Option (List Cell)) → Prop} (h : ∃ b vals outs, a = b ∧ D P X (.call 109 b vals outs) ∧ Q vals outs) : CallS P X 109 a Q := ⟨h⟩

set_option maxRecDepth 100000 in
theorem tx77 {l : List Prt} {r : List Vl} (hl : l.length ≤ 2000000 := by first | assumption | omega | (simp; done) | (simp; omega)) (hr : r.length ≤ 2000000 ∧ ∀ i (h : i < r.length), r[i].s.size ≤ 2000000 := by first | assumption | omega | (simp; done) | (simp; omega)) : T 77 [aE l, aE r] [vB (roOk l r)] [none, none] := by
  refine w_call md [] Tryz.func77 rfl ?_
  have hr1 := hr.1
  repeat' ((conv => whnf); (first | refine k0 ?_ | refine jA fun _ => ?_ | refine jB fun _ => ?_ | refine kC (fun _ => ?_) fun _ => ?_ | (apply cx125; refine kl tx125 ?_) | (apply cx126; refine kl tx126 ?_) | refine jst ?_ | exact ⟨rfl, rfl⟩ | exact jV | fail))
  all_goals first | exact ⟨vB1 (bOf_y ⟨by assumption, by omega, by assumption⟩), rfl⟩ | exact ⟨vB0 (bOf_n fun q => by first | exact bft (by assumption) q.1 | (have := q.2.1; omega) | exact bft (by assumption) q.2.2), rfl⟩

theorem cx77 {P : Program} {X : FuncId → List Arg → List (Bool × List Cell) → List (Option (List Cell)) → Prop} {a : List Arg} {Q : List (Bool × List Cell) → List (Option (List Cell)) → Prop} (h : ∃ b vals outs, a = b ∧ D P X (.call 77 b vals outs) ∧ Q vals outs) : CallS P X 77 a Q := ⟨h⟩

set_option maxRecDepth 100000 in
theorem tx65 {l : List Prt} {r : List Vl} (hl : l.length ≤ 2000000 := by first | assumption | omega | (simp; done) | (simp; omega)) (hr : r.length ≤ 2000000 ∧ ∀ i (h : i < r.length), r[i].s.size ≤ 2000000 := by first | assumption | omega | (simp; done) | (simp; omega)) : T 65 [aE l, aE r] [vB (roOk l r)] [none, none] := by
  refine w_call md [] Tryz.func65 rfl ?_
  have hr1 := hr.1
  repeat' ((conv => whnf); (first | refine k0 ?_ | refine jA fun _ => ?_ | refine jB fun _ => ?_ | refine kC (fun _ => ?_) fun _ => ?_ | (apply cx108; refine kl tx108 ?_) | (apply cx109; refine kl tx109 ?_) | refine jst ?_ | exact ⟨rfl, rfl⟩ | exact jV | fail))
  all_goals first | exact ⟨vB1 (bOf_y ⟨by assumption, by omega, by assumption⟩), rfl⟩ | exact ⟨vB0 (bOf_n fun q => by first | exact bft (by assumption) q.1 | (have := q.2.1; omega) | exact bft (by assumption) q.2.2), rfl⟩

theorem cx65 {P : Program} {X : FuncId → List Arg → List (Bool × List Cell) → List (Option (List Cell)) → Prop} {a : List Arg} {Q : List (Bool × List Cell) → List (Option (List Cell)) → Prop} (h : ∃ b vals outs, a = b ∧ D P X (.call 65 b vals outs) ∧ Q vals outs) : CallS P X 65 a Q := ⟨h⟩

end Go.Proofs.YtopnaijeicknoaaGreatDoor
