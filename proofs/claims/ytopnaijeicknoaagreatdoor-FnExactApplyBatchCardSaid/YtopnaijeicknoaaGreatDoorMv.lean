/- Functions of the program, each with what it gives back. -/
import Derived.Test.YtopnaijeicknoaaGreatDoorKe
import Derived.Test.YtopnaijeicknoaaGreatDoorChecked
import Derived.IntWalk
import Derived.Test.YtopnaijeicknoaaGreatDoorMm
namespace Go.Proofs.YtopnaijeicknoaaGreatDoor
open Go Go.RowKit Go.IntWalk
open Enc (sz cs)
attribute [local irreducible] IntKind.wrap

/-! ### Comparing values and keys -/
attribute [local irreducible] bOf
abbrev LtV (a b : Vl) : Prop := a.k < b.k ∨ a.k = b.k ∧ (a.n < b.n ∨ a.n = b.n ∧ Op.bytesLess a.s.toList b.s.toList = true)
noncomputable def lsV (a b : Vl) : Bool := bOf (LtV a b)
noncomputable def lpV (p : Prt) (a b : Vl) : Bool := match p.desc with
  | true => lsV b a
  | false => lsV a b
theorem lpV_d {p : Prt} {a b : Vl} (h : p.desc = true) : lpV p a b = lsV b a := by unfold lpV; rw [h]
theorem lpV_a {p : Prt} {a b : Vl} (h : p.desc = false) : lpV p a b = lsV a b := by unfold lpV; rw [h]
structure LtI (l : List Prt) (a b : List Vl) (i : Nat) : Prop where
  la : i < a.length
  lb : i < b.length
  ll : i < l.length
  eq : ∀ j (h1 : j < a.length) (h2 : j < b.length), j < i → a[j] = b[j]
  lt : a[i] ≠ b[i] ∧ lpV l[i] a[i] b[i] = true
abbrev LtK (l : List Prt) (a b : List Vl) : Prop := (∃ i, LtI l a b i) ∨ a.length < b.length ∧ ∀ j (h1 : j < a.length) (h2 : j < b.length), a[j] = b[j]
noncomputable def lkK (l : List Prt) (a b : List Vl) : Bool := bOf (LtK l a b)
theorem lkK_i {l : List Prt} {a b : List Vl} {i : Nat} {v : Bool} (la : i < a.length) (lb : i < b.length) (ll : i < l.length) (eq : ∀ j (h : j < a.length), j < i → ∀ h2 : j < b.length, a[j] = b[j]) (hn : a[i] ≠ b[i]) (hv : lpV l[i] a[i] b[i] = v) : lkK l a b = v := by
  unfold lkK
  cases v with
  | true => exact bOf_y (.inl ⟨i, la, lb, ll, fun j h1 h2 hj => eq j h1 hj h2, hn, hv⟩)
  | false =>
    refine bOf_n fun q => ?_
    rcases q with ⟨j, q⟩ | ⟨_, q⟩
    · rcases Nat.lt_trichotomy i j with h | h | h
      · exact hn (q.eq i la lb h)
      · subst h; exact bft hv q.lt.2
      · exact q.lt.1 (eq j q.la h q.lb)
    · exact hn (q i la lb)
theorem lkK_n {l : List Prt} {a b : List Vl} {i : Nat} (la : i < a.length) (lb : i < b.length) (ll : ¬ i < l.length) (eq : ∀ j (h : j < a.length), j < i → ∀ h2 : j < b.length, a[j] = b[j]) (hn : a[i] ≠ b[i]) : lkK l a b = false := by
  unfold lkK
  refine bOf_n fun q => ?_
  rcases q with ⟨j, q⟩ | ⟨_, q⟩
  · rcases Nat.lt_trichotomy i j with h | h | h
    · exact hn (q.eq i la lb h)
    · subst h; exact ll q.ll
    · exact q.lt.1 (eq j q.la h q.lb)
  · exact hn (q i la lb)
theorem lkK_e {l : List Prt} {a b : List Vl} {i : Nat} (h : ¬ (i < a.length ∧ i < b.length)) (eq : ∀ j (h : j < a.length), j < i → ∀ h2 : j < b.length, a[j] = b[j]) : (a.length < b.length → lkK l a b = true) ∧ (¬ a.length < b.length → lkK l a b = false) := by
  unfold lkK
  constructor
  · intro hl
    exact bOf_y (.inr ⟨hl, fun j h1 h2 => eq j h1 (by omega) h2⟩)
  · intro hl
    refine bOf_n fun q => ?_
    rcases q with ⟨j, q⟩ | ⟨q, _⟩
    · exact q.lt.1 (eq j q.la (by have := q.la; have := q.lb; omega) q.lb)
    · exact hl q
attribute [local irreducible] lkK
theorem i64_n {a b : Nat} (h : ((a : Nat) : Int) < b) : a < b := by omega

set_option maxRecDepth 100000 in
theorem tx114 {a b : Vl} : T 114 [.val true (vlC a), .val true (vlC b)] [vB (bOf (a = b))] [none, none] := by
  refine w_call md [] Tryz.func114 rfl ?_
  by_cases e : a = b
  · repeat' ((conv => whnf); (first | refine ko (eqV_y e) ?_ | refine k0 ?_ | refine jA fun _ => ?_ | refine jB fun _ => ?_ | refine kC (fun _ => ?_) fun _ => ?_ | refine jst ?_ | exact ⟨rfl, rfl⟩ | exact jV | fail))
    exact ⟨vB1 (bOf_y e), rfl⟩
  · repeat' ((conv => whnf); (first | refine ko (eqV_n e) ?_ | refine k0 ?_ | refine jA fun _ => ?_ | refine jB fun _ => ?_ | refine kC (fun _ => ?_) fun _ => ?_ | refine jst ?_ | exact ⟨rfl, rfl⟩ | exact jV | fail))
    exact ⟨vB0 (bOf_n e), rfl⟩

theorem cx114 {P : Program} {X : FuncId → List Arg → List (Bool × List Cell) → List (Option (List Cell)) → Prop} {a : List Arg} {Q : List (Bool × List Cell) → List (Option (List Cell)) → Prop} (h : ∃ b vals outs, a = b ∧ D P X (.call 114 b vals outs) ∧ Q vals outs) : CallS P X 114 a Q := ⟨h⟩

set_option maxHeartbeats 2000000 in
set_option maxRecDepth 100000 in
theorem tx159 {a b : Vl} : T 159 [.val true (vlC a), .val true (vlC b)] [vB (lsV a b)] [none, none] := by
  refine w_call md [] Tryz.func159 rfl ?_
  by_cases hk : a.k = b.k
  · by_cases hn : a.n = b.n
    · repeat' ((conv => whnf); (first | refine k0 ?_ | refine jA fun _ => ?_ | refine jB fun _ => ?_ | refine kC (fun _ => ?_) fun _ => ?_ | refine jst ?_ | exact ⟨rfl, rfl⟩ | exact jV | fail))
      all_goals first | exact ⟨vB1 (bOf_y (.inr ⟨hk, .inr ⟨hn, by assumption⟩⟩)), rfl⟩ | exact ⟨vB0 (bOf_n fun q => by
        rcases q with q | ⟨_, q | ⟨_, q⟩⟩
        · omega
        · omega
        · exact absurd q (by assumption)), rfl⟩
    · repeat' ((conv => whnf); (first | refine k0 ?_ | refine jA fun _ => ?_ | refine jB fun _ => ?_ | refine kC (fun _ => ?_) fun _ => ?_ | refine jst ?_ | exact ⟨rfl, rfl⟩ | exact jV | fail))
      all_goals first | exact ⟨vB1 (bOf_y (.inr ⟨hk, .inl (by assumption)⟩)), rfl⟩ | exact ⟨vB0 (bOf_n fun q => by
        rcases q with q | ⟨_, q | ⟨q, _⟩⟩
        · omega
        · exact absurd q (by assumption)
        · exact hn q), rfl⟩
  · repeat' ((conv => whnf); (first | refine k0 ?_ | refine jA fun _ => ?_ | refine jB fun _ => ?_ | refine kC (fun _ => ?_) fun _ => ?_ | refine jst ?_ | exact ⟨rfl, rfl⟩ | exact jV | fail))
    all_goals first | exact ⟨vB1 (bOf_y (.inl (by assumption))), rfl⟩ | exact ⟨vB0 (bOf_n fun q => by
        rcases q with q | ⟨q, _⟩
        · exact absurd q (by assumption)
        · exact hk q), rfl⟩

theorem cx159 {P : Program} {X : FuncId → List Arg → List (Bool × List Cell) → List (Option (List Cell)) → Prop} {a : List Arg} {Q : List (Bool × List Cell) → List (Option (List Cell)) → Prop} (h : ∃ b vals outs, a = b ∧ D P X (.call 159 b vals outs) ∧ Q vals outs) : CallS P X 159 a Q := ⟨h⟩

set_option maxRecDepth 100000 in
theorem tx130 {p : Prt} {a b : Vl} : T 130 [.val true (prtC p), .val true (vlC a), .val true (vlC b)] [vB (lpV p a b)] [none, none, none] := by
  refine w_call md [] Tryz.func130 rfl ?_
  obtain ⟨col, type, null, desc⟩ := p
  cases desc
  · rw [lpV_a rfl]
    repeat' ((conv => whnf); (first | refine k0 ?_ | refine jA fun _ => ?_ | refine jB fun _ => ?_ | refine kC (fun _ => ?_) fun _ => ?_ | (apply cx159; refine kl tx159 ?_) | refine jst ?_ | exact ⟨rfl, rfl⟩ | exact jV | fail))
    all_goals first | exact ⟨vB1 (by assumption), rfl⟩ | exact ⟨vB0 (by assumption), rfl⟩
  · rw [lpV_d rfl]
    repeat' ((conv => whnf); (first | refine k0 ?_ | refine jA fun _ => ?_ | refine jB fun _ => ?_ | refine kC (fun _ => ?_) fun _ => ?_ | (apply cx159; refine kl tx159 ?_) | refine jst ?_ | exact ⟨rfl, rfl⟩ | exact jV | fail))
    all_goals first | exact ⟨vB1 (by assumption), rfl⟩ | exact ⟨vB0 (by assumption), rfl⟩

theorem cx130 {P : Program} {X : FuncId → List Arg → List (Bool × List Cell) → List (Option (List Cell)) → Prop} {a : List Arg} {Q : List (Bool × List Cell) → List (Option (List Cell)) → Prop} (h : ∃ b vals outs, a = b ∧ D P X (.call 130 b vals outs) ∧ Q vals outs) : CallS P X 130 a Q := ⟨h⟩

set_option maxHeartbeats 2000000 in
set_option maxRecDepth 100000 in
theorem tx79 {l : List Prt} {a b : List Vl} (hl : l.length ≤ 2000000 := by first | assumption | omega | (simp; done) | (simp; omega)) (ha : a.length ≤ 2000000 := by first | assumption | omega | (simp; done) | (simp; omega)) (hb : b.length ≤ 2000000 := by first | assumption | omega | (simp; done) | (simp; omega)) : T 79 [aE l, aE a, aE b] [vB (lkK l a b)] [none, none, none] := by
  refine w_call md [] Tryz.func79 rfl ?_
  repeat' ((conv => whnf); (first | refine k0 ?_ | refine jA fun _ => ?_ | refine jB fun _ => ?_ | refine kC (fun _ => ?_) fun _ => ?_ | (apply cx130; refine kl tx130 ?_) | refine jst ?_ | exact ⟨rfl, rfl⟩ | exact jV | fail))
  conv => whnf
  refine loopk (ι := Nat) (fun i => (i ≤ a.length ∧ i ≤ b.length) ∧ ∀ j (h : j < a.length), j < i → ∀ h2 : j < b.length, a[j] = b[j]) (fun i => a.length - i) (0) [0, 1, 2] (fun i => [(7, .v false [i6 i])]) [none, none, none] ?_
  refine ⟨⟨⟨Nat.zero_le _, Nat.zero_le _⟩, by intros; omega⟩, ?_, fun i hi => ?_⟩
  · exact jw []
  · by_cases hin : i < a.length ∧ i < b.length
    · obtain ⟨h1, h2⟩ := hin
      by_cases e : a[i] = b[i]
      · repeat' ((conv => whnf); (first | refine ko (eqV_y e) ?_ | refine k0 ?_ | refine jA fun _ => ?_ | refine jB fun _ => ?_ | refine kC (fun _ => ?_) fun _ => ?_ | (apply cx130; refine kl tx130 ?_) | refine jst ?_ | exact ⟨rfl, rfl⟩ | exact jV | fail))
        refine ⟨⟨i + 1, by omega, all_suc hi.2 h1 (fun _ => e)⟩, by simp only; omega, ?_⟩
        exact jw []
      · by_cases h3 : i < l.length
        · have hP : T 130 [.val true (prtC l[i]), .val true (vlC a[i]), .val true (vlC b[i])] [vB (lkK l a b)] [none, none, none] := by
            rw [lkK_i h1 h2 h3 hi.2 e rfl]
            exact tx130
          repeat' ((conv => whnf); (first | refine ko (eqV_n e) ?_ | (apply cx130; refine kl (hP) ?_) | refine k0 ?_ | refine jA fun _ => ?_ | refine jB fun _ => ?_ | refine kC (fun _ => ?_) fun _ => ?_ | (apply cx130; refine kl tx130 ?_) | refine jst ?_ | exact ⟨rfl, rfl⟩ | exact jV | fail))
          all_goals first | exact ⟨vB1 (by assumption), rfl⟩ | exact ⟨vB0 (by assumption), rfl⟩
        · rw [lkK_n h1 h2 h3 hi.2 e]
          repeat' ((conv => whnf); (first | refine ko (eqV_n e) ?_ | refine k0 ?_ | refine jA fun _ => ?_ | refine jB fun _ => ?_ | refine kC (fun _ => ?_) fun _ => ?_ | (apply cx130; refine kl tx130 ?_) | refine jst ?_ | exact ⟨rfl, rfl⟩ | exact jV | fail))
    · obtain ⟨e1, e2⟩ := lkK_e (l := l) hin hi.2
      by_cases h1 : i < a.length
      · have h2 : ¬ i < b.length := fun q => hin ⟨h1, q⟩
        repeat' ((conv => whnf); (first | refine k0 ?_ | refine jA fun _ => ?_ | refine jB fun _ => ?_ | refine kC (fun _ => ?_) fun _ => ?_ | (apply cx130; refine kl tx130 ?_) | refine jst ?_ | exact ⟨rfl, rfl⟩ | exact jV | fail))
        all_goals first | exact ⟨vB1 (e1 (i64_n (by assumption))), rfl⟩ | exact ⟨vB0 (e2 (by omega)), rfl⟩
      · repeat' ((conv => whnf); (first | refine k0 ?_ | refine jA fun _ => ?_ | refine jB fun _ => ?_ | refine kC (fun _ => ?_) fun _ => ?_ | (apply cx130; refine kl tx130 ?_) | refine jst ?_ | exact ⟨rfl, rfl⟩ | exact jV | fail))
        all_goals first | exact ⟨vB1 (e1 (i64_n (by assumption))), rfl⟩ | exact ⟨vB0 (e2 (by omega)), rfl⟩

theorem cx79 {P : Program} {X : FuncId → List Arg → List (Bool × List Cell) → List (Option (List Cell)) → Prop} {a : List Arg} {Q : List (Bool × List Cell) → List (Option (List Cell)) → Prop} (h : ∃ b vals outs, a = b ∧ D P X (.call 79 b vals outs) ∧ Q vals outs) : CallS P X 79 a Q := ⟨h⟩

set_option maxHeartbeats 2000000 in
set_option maxRecDepth 100000 in
theorem tx150 {a b : Vl} : T 150 [.val true (vlC a), .val true (vlC b)] [vB (lsV a b)] [none, none] := by
  refine w_call md [] Tryz.func150 rfl ?_
  by_cases hk : a.k = b.k
  · by_cases hn : a.n = b.n
    · repeat' ((conv => whnf); (first | refine k0 ?_ | refine jA fun _ => ?_ | refine jB fun _ => ?_ | refine kC (fun _ => ?_) fun _ => ?_ | refine jst ?_ | exact ⟨rfl, rfl⟩ | exact jV | fail))
      all_goals first | exact ⟨vB1 (bOf_y (.inr ⟨hk, .inr ⟨hn, by assumption⟩⟩)), rfl⟩ | exact ⟨vB0 (bOf_n fun q => by
        rcases q with q | ⟨_, q | ⟨_, q⟩⟩
        · omega
        · omega
        · exact absurd q (by assumption)), rfl⟩
    · repeat' ((conv => whnf); (first | refine k0 ?_ | refine jA fun _ => ?_ | refine jB fun _ => ?_ | refine kC (fun _ => ?_) fun _ => ?_ | refine jst ?_ | exact ⟨rfl, rfl⟩ | exact jV | fail))
      all_goals first | exact ⟨vB1 (bOf_y (.inr ⟨hk, .inl (by assumption)⟩)), rfl⟩ | exact ⟨vB0 (bOf_n fun q => by
        rcases q with q | ⟨_, q | ⟨q, _⟩⟩
        · omega
        · exact absurd q (by assumption)
        · exact hn q), rfl⟩
  · repeat' ((conv => whnf); (first | refine k0 ?_ | refine jA fun _ => ?_ | refine jB fun _ => ?_ | refine kC (fun _ => ?_) fun _ => ?_ | refine jst ?_ | exact ⟨rfl, rfl⟩ | exact jV | fail))
    all_goals first | exact ⟨vB1 (bOf_y (.inl (by assumption))), rfl⟩ | exact ⟨vB0 (bOf_n fun q => by
        rcases q with q | ⟨q, _⟩
        · exact absurd q (by assumption)
        · exact hk q), rfl⟩

theorem cx150 {P : Program} {X : FuncId → List Arg → List (Bool × List Cell) → List (Option (List Cell)) → Prop} {a : List Arg} {Q : List (Bool × List Cell) → List (Option (List Cell)) → Prop} (h : ∃ b vals outs, a = b ∧ D P X (.call 150 b vals outs) ∧ Q vals outs) : CallS P X 150 a Q := ⟨h⟩

set_option maxRecDepth 100000 in
theorem tx115 {p : Prt} {a b : Vl} : T 115 [.val true (prtC p), .val true (vlC a), .val true (vlC b)] [vB (lpV p a b)] [none, none, none] := by
  refine w_call md [] Tryz.func115 rfl ?_
  obtain ⟨col, type, null, desc⟩ := p
  cases desc
  · rw [lpV_a rfl]
    repeat' ((conv => whnf); (first | refine k0 ?_ | refine jA fun _ => ?_ | refine jB fun _ => ?_ | refine kC (fun _ => ?_) fun _ => ?_ | (apply cx150; refine kl tx150 ?_) | refine jst ?_ | exact ⟨rfl, rfl⟩ | exact jV | fail))
    all_goals first | exact ⟨vB1 (by assumption), rfl⟩ | exact ⟨vB0 (by assumption), rfl⟩
  · rw [lpV_d rfl]
    repeat' ((conv => whnf); (first | refine k0 ?_ | refine jA fun _ => ?_ | refine jB fun _ => ?_ | refine kC (fun _ => ?_) fun _ => ?_ | (apply cx150; refine kl tx150 ?_) | refine jst ?_ | exact ⟨rfl, rfl⟩ | exact jV | fail))
    all_goals first | exact ⟨vB1 (by assumption), rfl⟩ | exact ⟨vB0 (by assumption), rfl⟩

theorem cx115 {P : Program} {X : FuncId → List Arg → List (Bool × List Cell) → List (Option (List Cell)) → Prop} {a : List Arg} {Q : List (Bool × List Cell) → List (Option (List Cell)) → Prop} (h : ∃ b vals outs, a = b ∧ D P X (.call 115 b vals outs) ∧ Q vals outs) : CallS P X 115 a Q := ⟨h⟩

set_option maxHeartbeats 2000000 in
set_option maxRecDepth 100000 in
theorem tx68 {l : List Prt} {a b : List Vl} (hl : l.length ≤ 2000000 := by first | assumption | omega | (simp; done) | (simp; omega)) (ha : a.length ≤ 2000000 := by first | assumption | omega | (simp; done) | (simp; omega)) (hb : b.length ≤ 2000000 := by first | assumption | omega | (simp; done) | (simp; omega)) : T 68 [aE l, aE a, aE b] [vB (lkK l a b)] [none, none, none] := by
  refine w_call md [] Tryz.func68 rfl ?_
  repeat' ((conv => whnf); (first | refine k0 ?_ | refine jA fun _ => ?_ | refine jB fun _ => ?_ | refine kC (fun _ => ?_) fun _ => ?_ | (apply cx114; refine kl tx114 ?_) | (apply cx115; refine kl tx115 ?_) | refine jst ?_ | exact ⟨rfl, rfl⟩ | exact jV | fail))
  conv => whnf
  refine loopk (ι := Nat) (fun i => (i ≤ a.length ∧ i ≤ b.length) ∧ ∀ j (h : j < a.length), j < i → ∀ h2 : j < b.length, a[j] = b[j]) (fun i => a.length - i) (0) [0, 1, 2] (fun i => [(7, .v false [i6 i])]) [none, none, none] ?_
  refine ⟨⟨⟨Nat.zero_le _, Nat.zero_le _⟩, by intros; omega⟩, ?_, fun i hi => ?_⟩
  · exact jw []
  · by_cases hin : i < a.length ∧ i < b.length
    · obtain ⟨h1, h2⟩ := hin
      by_cases e : a[i] = b[i]
      · have hS : T 114 [.val true (vlC a[i]), .val true (vlC b[i])] [vB true] [none, none] := by
          have h := tx114 (a := a[i]) (b := b[i])
          rwa [bOf_y e] at h
        repeat' ((conv => whnf); (first | (apply cx114; refine kl (hS) ?_) | refine k0 ?_ | refine jA fun _ => ?_ | refine jB fun _ => ?_ | refine kC (fun _ => ?_) fun _ => ?_ | (apply cx114; refine kl tx114 ?_) | (apply cx115; refine kl tx115 ?_) | refine jst ?_ | exact ⟨rfl, rfl⟩ | exact jV | fail))
        refine ⟨⟨i + 1, by omega, all_suc hi.2 h1 (fun _ => e)⟩, by simp only; omega, ?_⟩
        exact jw []
      · have hS : T 114 [.val true (vlC a[i]), .val true (vlC b[i])] [vB false] [none, none] := by
          have h := tx114 (a := a[i]) (b := b[i])
          rwa [bOf_n e] at h
        by_cases h3 : i < l.length
        · have hP : T 115 [.val true (prtC l[i]), .val true (vlC a[i]), .val true (vlC b[i])] [vB (lkK l a b)] [none, none, none] := by
            rw [lkK_i h1 h2 h3 hi.2 e rfl]
            exact tx115
          repeat' ((conv => whnf); (first | (apply cx114; refine kl (hS) ?_) | (apply cx115; refine kl (hP) ?_) | refine k0 ?_ | refine jA fun _ => ?_ | refine jB fun _ => ?_ | refine kC (fun _ => ?_) fun _ => ?_ | (apply cx114; refine kl tx114 ?_) | (apply cx115; refine kl tx115 ?_) | refine jst ?_ | exact ⟨rfl, rfl⟩ | exact jV | fail))
          all_goals first | exact ⟨vB1 (by assumption), rfl⟩ | exact ⟨vB0 (by assumption), rfl⟩
        · rw [lkK_n h1 h2 h3 hi.2 e]
          repeat' ((conv => whnf); (first | (apply cx114; refine kl (hS) ?_) | refine k0 ?_ | refine jA fun _ => ?_ | refine jB fun _ => ?_ | refine kC (fun _ => ?_) fun _ => ?_ | (apply cx114; refine kl tx114 ?_) | (apply cx115; refine kl tx115 ?_) | refine jst ?_ | exact ⟨rfl, rfl⟩ | exact jV | fail))
    · obtain ⟨e1, e2⟩ := lkK_e (l := l) hin hi.2
      by_cases h1 : i < a.length
      · have h2 : ¬ i < b.length := fun q => hin ⟨h1, q⟩
        repeat' ((conv => whnf); (first | refine k0 ?_ | refine jA fun _ => ?_ | refine jB fun _ => ?_ | refine kC (fun _ => ?_) fun _ => ?_ | (apply cx114; refine kl tx114 ?_) | (apply cx115; refine kl tx115 ?_) | refine jst ?_ | exact ⟨rfl, rfl⟩ | exact jV | fail))
        all_goals first | exact ⟨vB1 (e1 (i64_n (by assumption))), rfl⟩ | exact ⟨vB0 (e2 (by omega)), rfl⟩
      · repeat' ((conv => whnf); (first | refine k0 ?_ | refine jA fun _ => ?_ | refine jB fun _ => ?_ | refine kC (fun _ => ?_) fun _ => ?_ | (apply cx114; refine kl tx114 ?_) | (apply cx115; refine kl tx115 ?_) | refine jst ?_ | exact ⟨rfl, rfl⟩ | exact jV | fail))
        all_goals first | exact ⟨vB1 (e1 (i64_n (by assumption))), rfl⟩ | exact ⟨vB0 (e2 (by omega)), rfl⟩

theorem cx68 {P : Program} {X : FuncId → List Arg → List (Bool × List Cell) → List (Option (List Cell)) → Prop} {a : List Arg} {Q : List (Bool × List Cell) → List (Option (List Cell)) → Prop} (h : ∃ b vals outs, a = b ∧ D P X (.call 68 b vals outs) ∧ Q vals outs) : CallS P X 68 a Q := ⟨h⟩

end Go.Proofs.YtopnaijeicknoaaGreatDoor
