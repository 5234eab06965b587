/- What the law comes to: functions of the program, each with what it gives back, and the plain facts behind them. -/
import Derived.Test.YtddikflnjloagaaGreatDoorChecked
import Derived.IntWalk
import Derived.Test.YtddikflnjloagaaGreatDoorPg
import Derived.Test.YtddikflnjloagaaGreatDoorPi
namespace Go.Proofs.YtddikflnjloagaaGreatDoor

section
open Go Go.RowKit Go.IntWalk

open Enc (sz cs)

attribute [local irreducible] IntKind.wrap

/-! ### Comparing values and keys -/

attribute [local irreducible] bOf

abbrev LtV (a b : Vl) : Prop := a.k < b.k ∨ a.k = b.k ∧ (a.n < b.n ∨ a.n = b.n ∧ Op.bytesLess a.s.toList b.s.toList = true)

noncomputable def lsV (a b : Vl) : Bool := bOf (LtV a b)

noncomputable def lpV (p : Prt) (a b : Vl) : Bool := match p.desc with
  | true => lsV b a
  | false => lsV a b

theorem lpV_d {p : Prt} {a b : Vl} (h : p.desc = true) : lpV p a b = lsV b a := by unfold lpV; rw [h]

theorem lpV_a {p : Prt} {a b : Vl} (h : p.desc = false) : lpV p a b = lsV a b := by unfold lpV; rw [h]

structure LtI (l : List Prt) (a b : List Vl) (i : Nat) : Prop where
  la : i < a.length
  lb : i < b.length
  ll : i < l.length
  eq : ∀ j (h1 : j < a.length) (h2 : j < b.length), j < i → a[j] = b[j]
  lt : a[i] ≠ b[i] ∧ lpV l[i] a[i] b[i] = true

abbrev LtK (l : List Prt) (a b : List Vl) : Prop := (∃ i, LtI l a b i) ∨ a.length < b.length ∧ ∀ j (h1 : j < a.length) (h2 : j < b.length), a[j] = b[j]

noncomputable def lkK (l : List Prt) (a b : List Vl) : Bool := bOf (LtK l a b)

theorem lkK_i {l : List Prt} {a b : List Vl} {i : Nat} {v : Bool} (la : i < a.length) (lb : i < b.length) (ll : i < l.length) (eq : ∀ j (h : j < a.length), j < i → ∀ h2 : j < b.length, a[j] = b[j]) (hn : a[i] ≠ b[i]) (hv : lpV l[i] a[i] b[i] = v) : lkK l a b = v := by
  unfold lkK
  cases v with
  | true => exact bOf_y (.inl ⟨i, la, lb, ll, fun j h1 h2 hj => eq j h1 hj h2, hn, hv⟩)
  | false =>
    refine bOf_n fun q => ?_
    rcases q with ⟨j, q⟩ | ⟨_, q⟩
    · rcases Nat.lt_trichotomy i j with h | h | h
      · exact hn (q.eq i la lb h)
      · subst h; exact bft hv q.lt.2
      · exact q.lt.1 (eq j q.la h q.lb)
    · exact hn (q i la lb)

theorem lkK_n {l : List Prt} {a b : List Vl} {i : Nat} (la : i < a.length) (lb : i < b.length) (ll : ¬ i < l.length) (eq : ∀ j (h : j < a.length), j < i → ∀ h2 : j < b.length, a[j] = b[j]) (hn : a[i] ≠ b[i]) : lkK l a b = false := by
  unfold lkK
  refine bOf_n fun q => ?_
  rcases q with ⟨j, q⟩ | ⟨_, q⟩
  · rcases Nat.lt_trichotomy i j with h | h | h
    · exact hn (q.eq i la lb h)
    · subst h; exact ll q.ll
    · exact q.lt.1 (eq j q.la h q.lb)
  · exact hn (q i la lb)

theorem lkK_e {l : List Prt} {a b : List Vl} {i : Nat} (h : ¬ (i < a.length ∧ i < b.length)) (eq : ∀ j (h : j < a.length), j < i → ∀ h2 : j < b.length, a[j] = b[j]) : (a.length < b.length → lkK l a b = true) ∧ (¬ a.length < b.length → lkK l a b = false) := by
  unfold lkK
  constructor
  · intro hl
    exact bOf_y (.inr ⟨hl, fun j h1 h2 => eq j h1 (by omega) h2⟩)
  · intro hl
    refine bOf_n fun q => ?_
    rcases q with ⟨j, q⟩ | ⟨q, _⟩
    · exact q.lt.1 (eq j q.la (by have := q.la; have := q.lb; omega) q.lb)
    · exact hl q

attribute [local irreducible] lkK

theorem i64_n {a b : Nat} (h : ((a : Nat) : Int) < b) : a < b := by omega

set_option maxRecDepth 100000 in
theorem tx127 {a b : Vl} : T 127 [.val true (vlC a), .val true (vlC b)] [vB (bOf (a = b))] [none, none] := by
  refine w_call md [] Tryz.func127 rfl ?_
  by_cases e : a = b
  · repeat' ((conv => whnf); (first | refine ko (eqV_y e) ?_ | refine k0 ?_ | refine jA fun _ => ?_ | refine jB fun _ => ?_ | refine kC (fun _ => ?_) fun _ => ?_ | refine jst ?_ | exact ⟨rfl, rfl⟩ | exact jV | fail))
    exact ⟨vB1 (bOf_y e), rfl⟩
  · repeat' ((conv => whnf); (first | refine ko (eqV_n e) ?_ | refine k0 ?_ | refine jA fun _ => ?_ | refine jB fun _ => ?_ | refine kC (fun _ => ?_) fun _ => ?_ | refine jst ?_ | exact ⟨rfl, rfl⟩ | exact jV | fail))
    exact ⟨vB0 (bOf_n e), rfl⟩

theorem cx127 {P : Program} {X : FuncId → List Arg → List (Bool × List Cell) → List (Option (List Cell)) → Prop} {a : List Arg} {Q : List (Bool × List Cell) → List (Option (List Cell)) → Prop} (h : ∃ b vals outs, a = b ∧ D P X (.call 127 b vals outs) ∧ Q vals outs) : CallS P X 127 a Q := ⟨h⟩

set_option maxHeartbeats 2000000 in
set_option maxRecDepth 100000 in
theorem tx136 {a b : Vl} : T 136 [.val true (vlC a), .val true (vlC b)] [vB (lsV a b)] [none, none] := by
  refine w_call md [] Tryz.func136 rfl ?_
  by_cases hk : a.k = b.k
  · by_cases hn : a.n = b.n
    · repeat' ((conv => whnf); (first | refine k0 ?_ | refine jA fun _ => ?_ | refine jB fun _ => ?_ | refine kC (fun _ => ?_) fun _ => ?_ | refine jst ?_ | exact ⟨rfl, rfl⟩ | exact jV | fail))
      all_goals first | exact ⟨vB1 (bOf_y (.inr ⟨hk, .inr ⟨hn, by assumption⟩⟩)), rfl⟩ | exact ⟨vB0 (bOf_n fun q => by
        rcases q with q | ⟨_, q | ⟨_, q⟩⟩
        · omega
        · omega
        · exact absurd q (by assumption)), rfl⟩
    · repeat' ((conv => whnf); (first | refine k0 ?_ | refine jA fun _ => ?_ | refine jB fun _ => ?_ | refine kC (fun _ => ?_) fun _ => ?_ | refine jst ?_ | exact ⟨rfl, rfl⟩ | exact jV | fail))
      all_goals first | exact ⟨vB1 (bOf_y (.inr ⟨hk, .inl (by assumption)⟩)), rfl⟩ | exact ⟨vB0 (bOf_n fun q => by
        rcases q with q | ⟨_, q | ⟨q, _⟩⟩
        · omega
        · exact absurd q (by assumption)
        · exact hn q), rfl⟩
  · repeat' ((conv => whnf); (first | refine k0 ?_ | refine jA fun _ => ?_ | refine jB fun _ => ?_ | refine kC (fun _ => ?_) fun _ => ?_ | refine jst ?_ | exact ⟨rfl, rfl⟩ | exact jV | fail))
    all_goals first | exact ⟨vB1 (bOf_y (.inl (by assumption))), rfl⟩ | exact ⟨vB0 (bOf_n fun q => by
        rcases q with q | ⟨q, _⟩
        · exact absurd q (by assumption)
        · exact hk q), rfl⟩

theorem cx136 {P : Program} {X : FuncId → List Arg → List (Bool × List Cell) → List (Option (List Cell)) → Prop} {a : List Arg} {Q : List (Bool × List Cell) → List (Option (List Cell)) → Prop} (h : ∃ b vals outs, a = b ∧ D P X (.call 136 b vals outs) ∧ Q vals outs) : CallS P X 136 a Q := ⟨h⟩

set_option maxRecDepth 100000 in
theorem tx112 {p : Prt} {a b : Vl} : T 112 [.val true (prtC p), .val true (vlC a), .val true (vlC b)] [vB (lpV p a b)] [none, none, none] := by
  refine w_call md [] Tryz.func112 rfl ?_
  obtain ⟨col, type, null, desc⟩ := p
  cases desc
  · rw [lpV_a rfl]
    repeat' ((conv => whnf); (first | refine k0 ?_ | refine jA fun _ => ?_ | refine jB fun _ => ?_ | refine kC (fun _ => ?_) fun _ => ?_ | (apply cx136; refine kl tx136 ?_) | refine jst ?_ | exact ⟨rfl, rfl⟩ | exact jV | fail))
    all_goals first | exact ⟨vB1 (by assumption), rfl⟩ | exact ⟨vB0 (by assumption), rfl⟩
  · rw [lpV_d rfl]
    repeat' ((conv => whnf); (first | refine k0 ?_ | refine jA fun _ => ?_ | refine jB fun _ => ?_ | refine kC (fun _ => ?_) fun _ => ?_ | (apply cx136; refine kl tx136 ?_) | refine jst ?_ | exact ⟨rfl, rfl⟩ | exact jV | fail))
    all_goals first | exact ⟨vB1 (by assumption), rfl⟩ | exact ⟨vB0 (by assumption), rfl⟩

theorem cx112 {P : Program} {X : FuncId → List Arg → List (Bool × List Cell) → List (Option (List Cell)) → Prop} {a : List Arg} {Q : List (Bool × List Cell) → List (Option (List Cell)) → Prop} (h : ∃ b vals outs, a = b ∧ D P X (.call 112 b vals outs) ∧ Q vals outs) : CallS P X 112 a Q := ⟨h⟩

set_option maxHeartbeats 2000000 in
set_option maxRecDepth 100000 in
theorem tx84 {l : List Prt} {a b : List Vl} (ha : a.length ≤ 2000000 := by first | assumption | omega | (simp; done) | (simp; omega)) : T 84 [aE l, aE a, aE b] [vB (lkK l a b)] [none, none, none] := by
  refine w_call md [] Tryz.func84 rfl ?_
  repeat' ((conv => whnf); (first | refine k0 ?_ | refine jA fun _ => ?_ | refine jB fun _ => ?_ | refine kC (fun _ => ?_) fun _ => ?_ | (apply cx112; refine kl tx112 ?_) | refine jst ?_ | exact ⟨rfl, rfl⟩ | exact jV | fail))
  conv => whnf
  refine loopk (ι := Nat) (fun i => (i ≤ a.length ∧ i ≤ b.length) ∧ ∀ j (h : j < a.length), j < i → ∀ h2 : j < b.length, a[j] = b[j]) (fun i => a.length - i) (0) [0, 1, 2] (fun i => [(7, .v false [i6 i])]) [none, none, none] ?_
  refine ⟨⟨⟨Nat.zero_le _, Nat.zero_le _⟩, by intros; omega⟩, ?_, fun i hi => ?_⟩
  · exact jw []
  · by_cases hin : i < a.length ∧ i < b.length
    · obtain ⟨h1, h2⟩ := hin
      by_cases e : a[i] = b[i]
      · repeat' ((conv => whnf); (first | refine ko (eqV_y e) ?_ | refine k0 ?_ | refine jA fun _ => ?_ | refine jB fun _ => ?_ | refine kC (fun _ => ?_) fun _ => ?_ | (apply cx112; refine kl tx112 ?_) | refine jst ?_ | exact ⟨rfl, rfl⟩ | exact jV | fail))
        refine ⟨⟨i + 1, by omega, all_suc hi.2 h1 (fun _ => e)⟩, by simp only; omega, ?_⟩
        exact jw []
      · by_cases h3 : i < l.length
        · have hP : T 112 [.val true (prtC l[i]), .val true (vlC a[i]), .val true (vlC b[i])] [vB (lkK l a b)] [none, none, none] := by
            rw [lkK_i h1 h2 h3 hi.2 e rfl]
            exact tx112
          repeat' ((conv => whnf); (first | refine ko (eqV_n e) ?_ | (apply cx112; refine kl (hP) ?_) | refine k0 ?_ | refine jA fun _ => ?_ | refine jB fun _ => ?_ | refine kC (fun _ => ?_) fun _ => ?_ | (apply cx112; refine kl tx112 ?_) | refine jst ?_ | exact ⟨rfl, rfl⟩ | exact jV | fail))
          all_goals first | exact ⟨vB1 (by assumption), rfl⟩ | exact ⟨vB0 (by assumption), rfl⟩
        · rw [lkK_n h1 h2 h3 hi.2 e]
          repeat' ((conv => whnf); (first | refine ko (eqV_n e) ?_ | refine k0 ?_ | refine jA fun _ => ?_ | refine jB fun _ => ?_ | refine kC (fun _ => ?_) fun _ => ?_ | (apply cx112; refine kl tx112 ?_) | refine jst ?_ | exact ⟨rfl, rfl⟩ | exact jV | fail))
    · obtain ⟨e1, e2⟩ := lkK_e (l := l) hin hi.2
      by_cases h1 : i < a.length
      · have h2 : ¬ i < b.length := fun q => hin ⟨h1, q⟩
        repeat' ((conv => whnf); (first | refine k0 ?_ | refine jA fun _ => ?_ | refine jB fun _ => ?_ | refine kC (fun _ => ?_) fun _ => ?_ | (apply cx112; refine kl tx112 ?_) | refine jst ?_ | exact ⟨rfl, rfl⟩ | exact jV | fail))
        all_goals first | exact ⟨vB1 (e1 (i64_n (by assumption))), rfl⟩ | exact ⟨vB0 (e2 (by omega)), rfl⟩
      · repeat' ((conv => whnf); (first | refine k0 ?_ | refine jA fun _ => ?_ | refine jB fun _ => ?_ | refine kC (fun _ => ?_) fun _ => ?_ | (apply cx112; refine kl tx112 ?_) | refine jst ?_ | exact ⟨rfl, rfl⟩ | exact jV | fail))
        all_goals first | exact ⟨vB1 (e1 (i64_n (by assumption))), rfl⟩ | exact ⟨vB0 (e2 (by omega)), rfl⟩

theorem cx84 {P : Program} {X : FuncId → List Arg → List (Bool × List Cell) → List (Option (List Cell)) → Prop} {a : List Arg} {Q : List (Bool × List Cell) → List (Option (List Cell)) → Prop} (h : ∃ b vals outs, a = b ∧ D P X (.call 84 b vals outs) ∧ Q vals outs) : CallS P X 84 a Q := ⟨h⟩

set_option maxHeartbeats 2000000 in
set_option maxRecDepth 100000 in
theorem tx149 {a b : Vl} : T 149 [.val true (vlC a), .val true (vlC b)] [vB (lsV a b)] [none, none] := by
  refine w_call md [] Tryz.func149 rfl ?_
  by_cases hk : a.k = b.k
  · by_cases hn : a.n = b.n
    · repeat' ((conv => whnf); (first | refine k0 ?_ | refine jA fun _ => ?_ | refine jB fun _ => ?_ | refine kC (fun _ => ?_) fun _ => ?_ | refine jst ?_ | exact ⟨rfl, rfl⟩ | exact jV | fail))
      all_goals first | exact ⟨vB1 (bOf_y (.inr ⟨hk, .inr ⟨hn, by assumption⟩⟩)), rfl⟩ | exact ⟨vB0 (bOf_n fun q => by
        rcases q with q | ⟨_, q | ⟨_, q⟩⟩
        · omega
        · omega
        · exact absurd q (by assumption)), rfl⟩
    · repeat' ((conv => whnf); (first | refine k0 ?_ | refine jA fun _ => ?_ | refine jB fun _ => ?_ | refine kC (fun _ => ?_) fun _ => ?_ | refine jst ?_ | exact ⟨rfl, rfl⟩ | exact jV | fail))
      all_goals first | exact ⟨vB1 (bOf_y (.inr ⟨hk, .inl (by assumption)⟩)), rfl⟩ | exact ⟨vB0 (bOf_n fun q => by
        rcases q with q | ⟨_, q | ⟨q, _⟩⟩
        · omega
        · exact absurd q (by assumption)
        · exact hn q), rfl⟩
  · repeat' ((conv => whnf); (first | refine k0 ?_ | refine jA fun _ => ?_ | refine jB fun _ => ?_ | refine kC (fun _ => ?_) fun _ => ?_ | refine jst ?_ | exact ⟨rfl, rfl⟩ | exact jV | fail))
    all_goals first | exact ⟨vB1 (bOf_y (.inl (by assumption))), rfl⟩ | exact ⟨vB0 (bOf_n fun q => by
        rcases q with q | ⟨q, _⟩
        · exact absurd q (by assumption)
        · exact hk q), rfl⟩

theorem cx149 {P : Program} {X : FuncId → List Arg → List (Bool × List Cell) → List (Option (List Cell)) → Prop} {a : List Arg} {Q : List (Bool × List Cell) → List (Option (List Cell)) → Prop} (h : ∃ b vals outs, a = b ∧ D P X (.call 149 b vals outs) ∧ Q vals outs) : CallS P X 149 a Q := ⟨h⟩

set_option maxRecDepth 100000 in
theorem tx128 {p : Prt} {a b : Vl} : T 128 [.val true (prtC p), .val true (vlC a), .val true (vlC b)] [vB (lpV p a b)] [none, none, none] := by
  refine w_call md [] Tryz.func128 rfl ?_
  obtain ⟨col, type, null, desc⟩ := p
  cases desc
  · rw [lpV_a rfl]
    repeat' ((conv => whnf); (first | refine k0 ?_ | refine jA fun _ => ?_ | refine jB fun _ => ?_ | refine kC (fun _ => ?_) fun _ => ?_ | (apply cx149; refine kl tx149 ?_) | refine jst ?_ | exact ⟨rfl, rfl⟩ | exact jV | fail))
    all_goals first | exact ⟨vB1 (by assumption), rfl⟩ | exact ⟨vB0 (by assumption), rfl⟩
  · rw [lpV_d rfl]
    repeat' ((conv => whnf); (first | refine k0 ?_ | refine jA fun _ => ?_ | refine jB fun _ => ?_ | refine kC (fun _ => ?_) fun _ => ?_ | (apply cx149; refine kl tx149 ?_) | refine jst ?_ | exact ⟨rfl, rfl⟩ | exact jV | fail))
    all_goals first | exact ⟨vB1 (by assumption), rfl⟩ | exact ⟨vB0 (by assumption), rfl⟩

theorem cx128 {P : Program} {X : FuncId → List Arg → List (Bool × List Cell) → List (Option (List Cell)) → Prop} {a : List Arg} {Q : List (Bool × List Cell) → List (Option (List Cell)) → Prop} (h : ∃ b vals outs, a = b ∧ D P X (.call 128 b vals outs) ∧ Q vals outs) : CallS P X 128 a Q := ⟨h⟩

set_option maxHeartbeats 2000000 in
set_option maxRecDepth 100000 in
theorem tx97 {l : List Prt} {a b : List Vl} (ha : a.length ≤ 2000000 := by first | assumption | omega | (simp; done) | (simp; omega)) : T 97 [aE l, aE a, aE b] [vB (lkK l a b)] [none, none, none] := by
  refine w_call md [] Tryz.func97 rfl ?_
  repeat' ((conv => whnf); (first | refine k0 ?_ | refine jA fun _ => ?_ | refine jB fun _ => ?_ | refine kC (fun _ => ?_) fun _ => ?_ | (apply cx127; refine kl tx127 ?_) | (apply cx128; refine kl tx128 ?_) | refine jst ?_ | exact ⟨rfl, rfl⟩ | exact jV | fail))
  conv => whnf
  refine loopk (ι := Nat) (fun i => (i ≤ a.length ∧ i ≤ b.length) ∧ ∀ j (h : j < a.length), j < i → ∀ h2 : j < b.length, a[j] = b[j]) (fun i => a.length - i) (0) [0, 1, 2] (fun i => [(7, .v false [i6 i])]) [none, none, none] ?_
  refine ⟨⟨⟨Nat.zero_le _, Nat.zero_le _⟩, by intros; omega⟩, ?_, fun i hi => ?_⟩
  · exact jw []
  · by_cases hin : i < a.length ∧ i < b.length
    · obtain ⟨h1, h2⟩ := hin
      by_cases e : a[i] = b[i]
      · have hS : T 127 [.val true (vlC a[i]), .val true (vlC b[i])] [vB true] [none, none] := by
          have h := tx127 (a := a[i]) (b := b[i])
          rwa [bOf_y e] at h
        repeat' ((conv => whnf); (first | (apply cx127; refine kl (hS) ?_) | refine k0 ?_ | refine jA fun _ => ?_ | refine jB fun _ => ?_ | refine kC (fun _ => ?_) fun _ => ?_ | (apply cx127; refine kl tx127 ?_) | (apply cx128; refine kl tx128 ?_) | refine jst ?_ | exact ⟨rfl, rfl⟩ | exact jV | fail))
        refine ⟨⟨i + 1, by omega, all_suc hi.2 h1 (fun _ => e)⟩, by simp only; omega, ?_⟩
        exact jw []
      · have hS : T 127 [.val true (vlC a[i]), .val true (vlC b[i])] [vB false] [none, none] := by
          have h := tx127 (a := a[i]) (b := b[i])
          rwa [bOf_n e] at h
        by_cases h3 : i < l.length
        · have hP : T 128 [.val true (prtC l[i]), .val true (vlC a[i]), .val true (vlC b[i])] [vB (lkK l a b)] [none, none, none] := by
            rw [lkK_i h1 h2 h3 hi.2 e rfl]
            exact tx128
          repeat' ((conv => whnf); (first | (apply cx127; refine kl (hS) ?_) | (apply cx128; refine kl (hP) ?_) | refine k0 ?_ | refine jA fun _ => ?_ | refine jB fun _ => ?_ | refine kC (fun _ => ?_) fun _ => ?_ | (apply cx127; refine kl tx127 ?_) | (apply cx128; refine kl tx128 ?_) | refine jst ?_ | exact ⟨rfl, rfl⟩ | exact jV | fail))
          all_goals first | exact ⟨vB1 (by assumption), rfl⟩ | exact ⟨vB0 (by assumption), rfl⟩
        · rw [lkK_n h1 h2 h3 hi.2 e]
          repeat' ((conv => whnf); (first | (apply cx127; refine kl (hS) ?_) | refine k0 ?_ | refine jA fun _ => ?_ | refine jB fun _ => ?_ | refine kC (fun _ => ?_) fun _ => ?_ | (apply cx127; refine kl tx127 ?_) | (apply cx128; refine kl tx128 ?_) | refine jst ?_ | exact ⟨rfl, rfl⟩ | exact jV | fail))
    · obtain ⟨e1, e2⟩ := lkK_e (l := l) hin hi.2
      by_cases h1 : i < a.length
      · have h2 : ¬ i < b.length := fun q => hin ⟨h1, q⟩
        repeat' ((conv => whnf); (first | refine k0 ?_ | refine jA fun _ => ?_ | refine jB fun _ => ?_ | refine kC (fun _ => ?_) fun _ => ?_ | (apply cx127; refine kl tx127 ?_) | (apply cx128; refine kl tx128 ?_) | refine jst ?_ | exact ⟨rfl, rfl⟩ | exact jV | fail))
        all_goals first | exact ⟨vB1 (e1 (i64_n (by assumption))), rfl⟩ | exact ⟨vB0 (e2 (by omega)), rfl⟩
      · repeat' ((conv => whnf); (first | refine k0 ?_ | refine jA fun _ => ?_ | refine jB fun _ => ?_ | refine kC (fun _ => ?_) fun _ => ?_ | (apply cx127; refine kl tx127 ?_) | (apply cx128; refine kl tx128 ?_) | refine jst ?_ | exact ⟨rfl, rfl⟩ | exact jV | fail))
        all_goals first | exact ⟨vB1 (e1 (i64_n (by assumption))), rfl⟩ | exact ⟨vB0 (e2 (by omega)), rfl⟩

theorem cx97 {P : Program} {X : FuncId → List Arg → List (Bool × List Cell) → List (Option (List Cell)) → Prop} {a : List Arg} {Q : List (Bool × List Cell) → List (Option (List Cell)) → Prop} (h : ∃ b vals outs, a = b ∧ D P X (.call 97 b vals outs) ∧ Q vals outs) : CallS P X 97 a Q := ⟨h⟩
end

section
open Go Go.RowKit Go.IntWalk

open Enc (sz cs)

attribute [local irreducible] IntKind.wrap

/-! ### Tables that are right -/

attribute [local irreducible] pkR ppN bOf fbN cdN rpN clN2 tkN lkK

abbrev RwB (rows : List (List Vl)) : Prop := rows.length ≤ 2000000 ∧ ∀ j (hj : j < rows.length), rows[j].length ≤ 2000000 ∧ ∀ i (h : i < rows[j].length), rows[j][i].s.size ≤ 2000000

structure RwI (d : Df) (k : Nat) (rows : List (List Vl)) (j : Nat) (hj : j < rows.length) : Prop where
  ro : roOk (rpN d) rows[j] = true
  lk : lkN d k rows[j] = false
  ls : 0 < j → lkK (ppN d) (pkR (ppN d) rows[j - 1]) (pkR (ppN d) rows[j]) = true

structure TbI (d : Df) (k : Nat) (rows : List (List Vl)) (j : Nat) (hj : j < rows.length) : Prop where
  rw_ : RwI d k rows j hj
  cl : ∀ i (hi : i < rows.length), i < j → clN2 d rows[i] rows[j] = false

noncomputable def tbI (d : Df) (k : Nat) (rows : List (List Vl)) : Bool := bOf (∀ j (hj : j < rows.length), TbI d k rows j hj)

noncomputable def tbS (d : Df) (k : Nat) (rows : List (List Vl)) : Bool := bOf ((∀ j (hj : j < rows.length), RwI d k rows j hj) ∧ ∀ j (hj : j < rows.length), tkN d rows rows[j] = false)

theorem cd_fb {s : List Df} {k : Nat} (h : fbN s = -1) (hk : k < s.length) : cdN s[k] = 0 := by
  have := fstI_neg (by unfold fbN at h; exact h) k hk
  exact Classical.byContradiction fun q => this (.inr ⟨hk, .inl q⟩)

set_option maxHeartbeats 2000000 in
set_option maxRecDepth 100000 in
theorem tx60 {s : List Df} {k : Nat} {rows : List (List Vl)} (hf : fbN s = -1 := by first | assumption | omega | (simp; done) | (simp; omega)) (hk : k < s.length := by first | assumption | omega | (simp; done) | (simp; omega)) (hs : zSc s ≤ 2000000 := by first | assumption | omega | (simp; done) | (simp; omega)) (hm : RwB rows := by first | assumption | omega | (simp; done) | (simp; omega)) : T 60 [aE s, aI (k : Nat), aE rows] [vB (tbI s[k] k rows)] [none, none, none] := by
  refine w_call md [] Tryz.func60 rfl ?_
  have hs2 := zSc_b hs
  have hz := hs2.2 k hk
  have hcd := cd_fb hf hk
  obtain ⟨z3, z4⟩ := hm
  have hrl := rpN_len (d := s[k])
  have hpl := ppN_len (d := s[k])
  repeat' ((conv => whnf); (first | refine And.intro ⟨by omega, by omega⟩ (Exists.intro _ (And.intro (rdI (i := k) (by omega) (by omega)) ?_)) | (apply cx50; refine kl (tx50 (d := s[k])) ?_) | (apply cx19; refine kl (tx19 (d := s[k])) ?_) | refine k0 ?_ | refine jA fun _ => ?_ | refine jB fun _ => ?_ | refine kC (fun _ => ?_) fun _ => ?_ | (apply cx50; refine kl tx50 ?_) | (apply cx19; refine kl tx19 ?_) | (apply cx85; refine kl tx85 ?_) | (apply cx14; refine kl tx14 ?_) | (apply cx18; refine kl tx18 ?_) | (apply cx84; refine kl tx84 ?_) | (apply cx83; refine kl tx83 ?_) | refine jst ?_ | exact ⟨rfl, rfl⟩ | exact jV | fail))
  conv => whnf
  refine loopk (ι := Nat) (fun i => i ≤ rows.length ∧ ∀ j (h : j < rows.length), j < i → TbI s[k] k rows j h) (fun i => rows.length - i) (0) [0, 1, 2, 23, 24] (fun i => [(7, rE 3 (rpN s[k])), (8, rE 4 (ppN s[k])), (25, .v false [i6 i])]) [none, none, none, some fun _ => nE (rpN s[k]), some fun _ => nE (ppN s[k])] ?_
  refine ⟨⟨by omega, by intros; omega⟩, ?_, fun u hi => ?_⟩
  · exact jw []
  · repeat' ((conv => whnf); (first | refine k0 ?_ | (apply cx50; refine kl tx50 ?_) | (apply cx19; refine kl tx19 ?_) | (apply cx85; refine kl tx85 ?_) | (apply cx14; refine kl tx14 ?_) | (apply cx18; refine kl tx18 ?_) | (apply cx84; refine kl tx84 ?_) | (apply cx83; refine kl tx83 ?_) | refine jst ?_ | exact ⟨rfl, rfl⟩ | exact jV | fail))
    conv => whnf
    refine ⟨fun hlt => ?_, fun hge => ?_⟩
    · have hi2 : u < rows.length := by omega
      have hzr := z4 u hi2
      have hzr1 := hzr.1
      have hR : T 85 [aE (rpN s[k]), aE rows[u]] [vB (roOk (rpN s[k]) rows[u])] [none, none] := tx85
      have hL : T 14 [aE s, aI (k : Nat), aE rows[u]] [vB (lkN s[k] k rows[u])] [none, none, none] := tx14 hf hk
      have hno : ∀ {P : Prop}, (∀ j (hj : j < rows.length), TbI s[k] k rows j hj) → (TbI s[k] k rows u hi2 → P) → P := fun q f => f (q u hi2)
      cases h1 : roOk (rpN s[k]) rows[u]
      · rw [h1] at hR
        repeat' ((conv => whnf); (first | (apply cx85; refine kl (hR) ?_) | refine k0 ?_ | refine jA fun _ => ?_ | refine jB fun _ => ?_ | refine kC (fun _ => ?_) fun _ => ?_ | (apply cx50; refine kl tx50 ?_) | (apply cx19; refine kl tx19 ?_) | (apply cx85; refine kl tx85 ?_) | (apply cx14; refine kl tx14 ?_) | (apply cx18; refine kl tx18 ?_) | (apply cx84; refine kl tx84 ?_) | (apply cx83; refine kl tx83 ?_) | refine jst ?_ | exact ⟨rfl, rfl⟩ | exact jV | fail))
        exact ⟨vB0 (bOf_n fun q => bft h1 (q u hi2).rw_.ro), rfl⟩
      rw [h1] at hR
      cases h2 : lkN s[k] k rows[u]
      rotate_left
      · rw [h2] at hL
        repeat' ((conv => whnf); (first | (apply cx85; refine kl (hR) ?_) | (apply cx14; refine kl (hL) ?_) | refine k0 ?_ | refine jA fun _ => ?_ | refine jB fun _ => ?_ | refine kC (fun _ => ?_) fun _ => ?_ | (apply cx50; refine kl tx50 ?_) | (apply cx19; refine kl tx19 ?_) | (apply cx85; refine kl tx85 ?_) | (apply cx14; refine kl tx14 ?_) | (apply cx18; refine kl tx18 ?_) | (apply cx84; refine kl tx84 ?_) | (apply cx83; refine kl tx83 ?_) | refine jst ?_ | exact ⟨rfl, rfl⟩ | exact jV | fail))
        exact ⟨vB0 (bOf_n fun q => bft (q u hi2).rw_.lk h2), rfl⟩
      rw [h2] at hL
      have key : (0 < u → lkK (ppN s[k]) (pkR (ppN s[k]) rows[u - 1]) (pkR (ppN s[k]) rows[u]) = true) ∨ 0 < u ∧ lkK (ppN s[k]) (pkR (ppN s[k]) rows[u - 1]) (pkR (ppN s[k]) rows[u]) = false := by
        by_cases h0 : 0 < u
        · cases hl : lkK (ppN s[k]) (pkR (ppN s[k]) rows[u - 1]) (pkR (ppN s[k]) rows[u])
          · exact .inr ⟨h0, rfl⟩
          · exact .inl fun _ => rfl
        · exact .inl fun q => absurd q h0
      rcases key with key | ⟨h0, h3⟩
      rotate_left
      · obtain ⟨u, rfl⟩ : ∃ a, u = a + 1 := ⟨u - 1, by omega⟩
        simp only [Nat.add_sub_cancel] at h3
        have hi3 : u < rows.length := by omega
        have hzr2 := (z4 u hi3).1
        have lp1 := pkR_len (l := ppN s[k]) (r := rows[u])
        have lp2 := pkR_len (l := ppN s[k]) (r := rows[u + 1])
        have hK : T 84 [aE (ppN s[k]), aE (pkR (ppN s[k]) rows[u]), aE (pkR (ppN s[k]) rows[u + 1])] [vB (lkK (ppN s[k]) (pkR (ppN s[k]) rows[u]) (pkR (ppN s[k]) rows[u + 1]))] [none, none, none] := tx84
        rw [h3] at hK
        repeat' ((conv => whnf); (first | (apply cx85; refine kl (hR) ?_) | (apply cx14; refine kl (hL) ?_) | (apply cx84; refine kl (hK) ?_) | (apply cx18; refine kl (tx18 (l := ppN s[k]) (r := rows[u])) ?_) | (apply cx18; refine kl (tx18 (l := ppN s[k]) (r := rows[u + 1])) ?_) | refine Exists.intro ((u : Nat) : Int) (And.intro ((i64_in _ (by omega)).trans (by omega)) ?_) | refine And.intro ⟨by omega, by omega⟩ (Exists.intro _ (And.intro (rdI (i := u) (by omega) (by omega)) ?_)) | refine k0 ?_ | refine jA fun _ => ?_ | refine jB fun _ => ?_ | refine kC (fun _ => ?_) fun _ => ?_ | (apply cx50; refine kl tx50 ?_) | (apply cx19; refine kl tx19 ?_) | (apply cx85; refine kl tx85 ?_) | (apply cx14; refine kl tx14 ?_) | (apply cx18; refine kl tx18 ?_) | (apply cx84; refine kl tx84 ?_) | (apply cx83; refine kl tx83 ?_) | refine jst ?_ | exact ⟨rfl, rfl⟩ | exact jV | fail))
        exact ⟨vB0 (bOf_n fun q => bft h3 ((q (u + 1) hi2).rw_.ls h0)), rfl⟩
      cases u with
      | zero =>
        have htk : (rows.take 0).length = 0 := rfl
        repeat' ((conv => whnf); (first | (apply cx85; refine kl (hR) ?_) | (apply cx14; refine kl (hL) ?_) | refine Exists.intro _ (Exists.intro _ (Exists.intro _ (And.intro rfl (And.intro bndN (And.intro (sl_to (by omega)) ?_))))) | refine k0 ?_ | refine jA fun _ => ?_ | refine jB fun _ => ?_ | refine kC (fun _ => ?_) fun _ => ?_ | (apply cx50; refine kl tx50 ?_) | (apply cx19; refine kl tx19 ?_) | (apply cx85; refine kl tx85 ?_) | (apply cx14; refine kl tx14 ?_) | (apply cx18; refine kl tx18 ?_) | (apply cx84; refine kl tx84 ?_) | (apply cx83; refine kl tx83 ?_) | refine jst ?_ | exact ⟨rfl, rfl⟩ | exact jV | fail))
        conv => whnf
        refine loopk (ι := Nat) (fun i => i ≤ 0 ∧ ∀ j (h : j < rows.length), j < i → clN2 s[k] rows[j] rows[0] = false) (fun i => 0 - i) (0) [0, 1, 2, 7, 8, 10, 23, 24, 25, 61, 62] (fun i => [(63, .v false [i6 i])]) [none, none, none, none, none] ?_
        refine ⟨⟨by omega, by intros; omega⟩, ?_, fun w hw => ?_⟩
        · exact jw []
        · repeat' ((conv => whnf); (first | refine k0 ?_ | (apply cx50; refine kl tx50 ?_) | (apply cx19; refine kl tx19 ?_) | (apply cx85; refine kl tx85 ?_) | (apply cx14; refine kl tx14 ?_) | (apply cx18; refine kl tx18 ?_) | (apply cx84; refine kl tx84 ?_) | (apply cx83; refine kl tx83 ?_) | refine jst ?_ | exact ⟨rfl, rfl⟩ | exact jV | fail))
          conv => whnf
          refine ⟨fun hlt2 => ?_, fun hge2 => ?_⟩
          · exact absurd (show w < 0 by omega) (Nat.not_lt_zero _)
          · obtain rfl : w = 0 := by omega
            repeat' ((conv => whnf); (first | refine k0 ?_ | refine jA fun _ => ?_ | refine jB fun _ => ?_ | refine kC (fun _ => ?_) fun _ => ?_ | (apply cx50; refine kl tx50 ?_) | (apply cx19; refine kl tx19 ?_) | (apply cx85; refine kl tx85 ?_) | (apply cx14; refine kl tx14 ?_) | (apply cx18; refine kl tx18 ?_) | (apply cx84; refine kl tx84 ?_) | (apply cx83; refine kl tx83 ?_) | refine jst ?_ | exact ⟨rfl, rfl⟩ | exact jV | fail))
            refine ⟨⟨0 + 1, by omega, all_suc hi.2 hi2 ⟨⟨h1, h2, key⟩, fun j h hj => hw.2 j h hj⟩⟩, by simp only; omega, ?_⟩
            exact jw []
      | succ u =>
        have h3 := key (by omega)
        simp only [Nat.add_sub_cancel] at h3
        have hi3 : u < rows.length := by omega
        have hzr2 := (z4 u hi3).1
        have lp1 := pkR_len (l := ppN s[k]) (r := rows[u])
        have lp2 := pkR_len (l := ppN s[k]) (r := rows[u + 1])
        have htk : (rows.take (u + 1)).length = u + 1 := by rw [List.length_take]; omega
        have hK : T 84 [aE (ppN s[k]), aE (pkR (ppN s[k]) rows[u]), aE (pkR (ppN s[k]) rows[u + 1])] [vB (lkK (ppN s[k]) (pkR (ppN s[k]) rows[u]) (pkR (ppN s[k]) rows[u + 1]))] [none, none, none] := tx84
        rw [h3] at hK
        repeat' ((conv => whnf); (first | (apply cx85; refine kl (hR) ?_) | (apply cx14; refine kl (hL) ?_) | (apply cx84; refine kl (hK) ?_) | (apply cx18; refine kl (tx18 (l := ppN s[k]) (r := rows[u])) ?_) | (apply cx18; refine kl (tx18 (l := ppN s[k]) (r := rows[u + 1])) ?_) | refine Exists.intro ((u : Nat) : Int) (And.intro ((i64_in _ (by omega)).trans (by omega)) ?_) | refine And.intro ⟨by omega, by omega⟩ (Exists.intro _ (And.intro (rdI (i := u) (by omega) (by omega)) ?_)) | refine Exists.intro _ (Exists.intro _ (Exists.intro _ (And.intro rfl (And.intro bndN (And.intro (sl_to (by omega)) ?_))))) | refine k0 ?_ | refine jA fun _ => ?_ | refine jB fun _ => ?_ | refine kC (fun _ => ?_) fun _ => ?_ | (apply cx50; refine kl tx50 ?_) | (apply cx19; refine kl tx19 ?_) | (apply cx85; refine kl tx85 ?_) | (apply cx14; refine kl tx14 ?_) | (apply cx18; refine kl tx18 ?_) | (apply cx84; refine kl tx84 ?_) | (apply cx83; refine kl tx83 ?_) | refine jst ?_ | exact ⟨rfl, rfl⟩ | exact jV | fail))
        conv => whnf
        refine loopk (ι := Nat) (fun i => i ≤ u + 1 ∧ ∀ j (h : j < rows.length), j < i → clN2 s[k] rows[j] rows[u + 1] = false) (fun i => u + 1 - i) (0) [0, 1, 2, 7, 8, 10, 23, 24, 25, 61, 62] (fun i => [(63, .v false [i6 i])]) [none, none, none, none, none] ?_
        refine ⟨⟨by omega, by intros; omega⟩, ?_, fun w hw => ?_⟩
        · exact jw []
        · repeat' ((conv => whnf); (first | refine k0 ?_ | (apply cx50; refine kl tx50 ?_) | (apply cx19; refine kl tx19 ?_) | (apply cx85; refine kl tx85 ?_) | (apply cx14; refine kl tx14 ?_) | (apply cx18; refine kl tx18 ?_) | (apply cx84; refine kl tx84 ?_) | (apply cx83; refine kl tx83 ?_) | refine jst ?_ | exact ⟨rfl, rfl⟩ | exact jV | fail))
          conv => whnf
          refine ⟨fun hlt2 => ?_, fun hge2 => ?_⟩
          · have hw2 : w < u + 1 := by omega
            have hw3 : w < rows.length := by omega
            have hw4 : w < (rows.take (u + 1)).length := by omega
            have ew : (rows.take (u + 1))[w] = rows[w] := List.getElem_take
            have hzw := (z4 w hw3).1
            have hC : T 83 [.val true (dfC false s[k]), aE (rows.take (u + 1))[w], aE rows[u + 1]] [vB (clN2 s[k] rows[w] rows[u + 1])] [none, none, none] := by
              rw [ew]
              exact tx83 hcd
            cases h5 : clN2 s[k] rows[w] rows[u + 1]
            · rw [h5] at hC
              repeat' ((conv => whnf); (first | refine And.intro ⟨by omega, by omega⟩ (Exists.intro _ (And.intro (rdI (i := k) (by omega) (by omega)) ?_)) | (apply cx83; refine kl (hC) ?_) | refine k0 ?_ | refine jA fun _ => ?_ | refine jB fun _ => ?_ | refine kC (fun _ => ?_) fun _ => ?_ | (apply cx50; refine kl tx50 ?_) | (apply cx19; refine kl tx19 ?_) | (apply cx85; refine kl tx85 ?_) | (apply cx14; refine kl tx14 ?_) | (apply cx18; refine kl tx18 ?_) | (apply cx84; refine kl tx84 ?_) | (apply cx83; refine kl tx83 ?_) | refine jst ?_ | exact ⟨rfl, rfl⟩ | exact jV | fail))
              refine ⟨⟨w + 1, by omega, all_suc hw.2 hw3 h5⟩, by simp only; omega, ?_⟩
              exact jw []
            · rw [h5] at hC
              repeat' ((conv => whnf); (first | refine And.intro ⟨by omega, by omega⟩ (Exists.intro _ (And.intro (rdI (i := k) (by omega) (by omega)) ?_)) | (apply cx83; refine kl (hC) ?_) | refine k0 ?_ | refine jA fun _ => ?_ | refine jB fun _ => ?_ | refine kC (fun _ => ?_) fun _ => ?_ | (apply cx50; refine kl tx50 ?_) | (apply cx19; refine kl tx19 ?_) | (apply cx85; refine kl tx85 ?_) | (apply cx14; refine kl tx14 ?_) | (apply cx18; refine kl tx18 ?_) | (apply cx84; refine kl tx84 ?_) | (apply cx83; refine kl tx83 ?_) | refine jst ?_ | exact ⟨rfl, rfl⟩ | exact jV | fail))
              exact ⟨vB0 (bOf_n fun q => bft ((q (u + 1) hi2).cl w hw3 hw2) h5), rfl⟩
          · obtain rfl : w = u + 1 := by omega
            repeat' ((conv => whnf); (first | refine k0 ?_ | refine jA fun _ => ?_ | refine jB fun _ => ?_ | refine kC (fun _ => ?_) fun _ => ?_ | (apply cx50; refine kl tx50 ?_) | (apply cx19; refine kl tx19 ?_) | (apply cx85; refine kl tx85 ?_) | (apply cx14; refine kl tx14 ?_) | (apply cx18; refine kl tx18 ?_) | (apply cx84; refine kl tx84 ?_) | (apply cx83; refine kl tx83 ?_) | refine jst ?_ | exact ⟨rfl, rfl⟩ | exact jV | fail))
            refine ⟨⟨u + 1 + 1, by omega, all_suc hi.2 hi2 ⟨⟨h1, h2, key⟩, fun j h hj => hw.2 j h hj⟩⟩, by simp only; omega, ?_⟩
            exact jw []
    · obtain rfl : u = rows.length := by omega
      repeat' ((conv => whnf); (first | refine k0 ?_ | refine jA fun _ => ?_ | refine jB fun _ => ?_ | refine kC (fun _ => ?_) fun _ => ?_ | (apply cx50; refine kl tx50 ?_) | (apply cx19; refine kl tx19 ?_) | (apply cx85; refine kl tx85 ?_) | (apply cx14; refine kl tx14 ?_) | (apply cx18; refine kl tx18 ?_) | (apply cx84; refine kl tx84 ?_) | (apply cx83; refine kl tx83 ?_) | refine jst ?_ | exact ⟨rfl, rfl⟩ | exact jV | fail))
      exact ⟨vB1 (bOf_y fun j hj => hi.2 j hj hj), rfl⟩

theorem cx60 {P : Program} {X : FuncId → List Arg → List (Bool × List Cell) → List (Option (List Cell)) → Prop} {a : List Arg} {Q : List (Bool × List Cell) → List (Option (List Cell)) → Prop} (h : ∃ b vals outs, a = b ∧ D P X (.call 60 b vals outs) ∧ Q vals outs) : CallS P X 60 a Q := ⟨h⟩

set_option maxHeartbeats 2000000 in
set_option maxRecDepth 100000 in
theorem tx68 {s : List Df} {k : Nat} {rows : List (List Vl)} (hf : fbN s = -1 := by first | assumption | omega | (simp; done) | (simp; omega)) (hk : k < s.length := by first | assumption | omega | (simp; done) | (simp; omega)) (hs : zSc s ≤ 2000000 := by first | assumption | omega | (simp; done) | (simp; omega)) (hm : RwB rows := by first | assumption | omega | (simp; done) | (simp; omega)) : T 68 [aE s, aI (k : Nat), aE rows] [vB (tbS s[k] k rows)] [none, none, none] := by
  refine w_call md [] Tryz.func68 rfl ?_
  have hs2 := zSc_b hs
  have hz := hs2.2 k hk
  have hcd := cd_fb hf hk
  obtain ⟨z3, z4⟩ := hm
  have z5 : rows.length ≤ 2000000 ∧ ∀ j (hj : j < rows.length), rows[j].length ≤ 2000000 := ⟨z3, fun j hj => (z4 j hj).1⟩
  have hrl := rpN_len (d := s[k])
  have hpl := ppN_len (d := s[k])
  repeat' ((conv => whnf); (first | refine And.intro ⟨by omega, by omega⟩ (Exists.intro _ (And.intro (rdI (i := k) (by omega) (by omega)) ?_)) | (apply cx11; refine kl (tx11 (d := s[k])) ?_) | refine k0 ?_ | refine jA fun _ => ?_ | refine jB fun _ => ?_ | refine kC (fun _ => ?_) fun _ => ?_ | (apply cx11; refine kl tx11 ?_) | (apply cx93; refine kl tx93 ?_) | (apply cx92; refine kl tx92 ?_) | (apply cx94; refine kl tx94 ?_) | (apply cx74; refine kl tx74 ?_) | (apply cx97; refine kl tx97 ?_) | (apply cx56; refine kl tx56 ?_) | refine jst ?_ | exact ⟨rfl, rfl⟩ | exact jV | fail))
  conv => whnf
  refine loopk (ι := Nat) (fun i => i ≤ rows.length ∧ ∀ j (h : j < rows.length), j < i → RwI s[k] k rows j h) (fun i => rows.length - i) (0) [0, 1, 2, 7, 8] (fun i => [(9, .v false [i6 i])]) [none, none, none, some fun _ => some (true, dfC false s[k]), some fun _ => nE (ppN s[k])] ?_
  refine ⟨⟨by omega, by intros; omega⟩, ?_, fun u hi => ?_⟩
  · exact jw []
  · repeat' ((conv => whnf); (first | refine k0 ?_ | (apply cx11; refine kl tx11 ?_) | (apply cx93; refine kl tx93 ?_) | (apply cx92; refine kl tx92 ?_) | (apply cx94; refine kl tx94 ?_) | (apply cx74; refine kl tx74 ?_) | (apply cx97; refine kl tx97 ?_) | (apply cx56; refine kl tx56 ?_) | refine jst ?_ | exact ⟨rfl, rfl⟩ | exact jV | fail))
    conv => whnf
    refine ⟨fun hlt => ?_, fun hge => ?_⟩
    · have hi2 : u < rows.length := by omega
      have hzr := z4 u hi2
      have hzr1 := hzr.1
      have hR : T 92 [aE (rpN s[k]), aE rows[u]] [vB (roOk (rpN s[k]) rows[u])] [none, none] := tx92
      have hL : T 94 [aE s, aI (k : Nat), aE rows[u]] [vB (lkN s[k] k rows[u])] [none, none, none] := tx94 hf hk
      cases h1 : roOk (rpN s[k]) rows[u]
      · rw [h1] at hR
        repeat' ((conv => whnf); (first | (apply cx92; refine kl (hR) ?_) | (apply cx93; refine kl (tx93 (d := s[k])) ?_) | refine k0 ?_ | refine jA fun _ => ?_ | refine jB fun _ => ?_ | refine kC (fun _ => ?_) fun _ => ?_ | (apply cx11; refine kl tx11 ?_) | (apply cx93; refine kl tx93 ?_) | (apply cx92; refine kl tx92 ?_) | (apply cx94; refine kl tx94 ?_) | (apply cx74; refine kl tx74 ?_) | (apply cx97; refine kl tx97 ?_) | (apply cx56; refine kl tx56 ?_) | refine jst ?_ | exact ⟨rfl, rfl⟩ | exact jV | fail))
        exact ⟨vB0 (bOf_n fun q => bft h1 (q.1 u hi2).ro), rfl⟩
      rw [h1] at hR
      cases h2 : lkN s[k] k rows[u]
      rotate_left
      · rw [h2] at hL
        repeat' ((conv => whnf); (first | (apply cx92; refine kl (hR) ?_) | (apply cx94; refine kl (hL) ?_) | (apply cx93; refine kl (tx93 (d := s[k])) ?_) | refine k0 ?_ | refine jA fun _ => ?_ | refine jB fun _ => ?_ | refine kC (fun _ => ?_) fun _ => ?_ | (apply cx11; refine kl tx11 ?_) | (apply cx93; refine kl tx93 ?_) | (apply cx92; refine kl tx92 ?_) | (apply cx94; refine kl tx94 ?_) | (apply cx74; refine kl tx74 ?_) | (apply cx97; refine kl tx97 ?_) | (apply cx56; refine kl tx56 ?_) | refine jst ?_ | exact ⟨rfl, rfl⟩ | exact jV | fail))
        exact ⟨vB0 (bOf_n fun q => bft (q.1 u hi2).lk h2), rfl⟩
      rw [h2] at hL
      cases u with
      | zero =>
        repeat' ((conv => whnf); (first | (apply cx92; refine kl (hR) ?_) | (apply cx94; refine kl (hL) ?_) | (apply cx93; refine kl (tx93 (d := s[k])) ?_) | refine k0 ?_ | refine jA fun _ => ?_ | refine jB fun _ => ?_ | refine kC (fun _ => ?_) fun _ => ?_ | (apply cx11; refine kl tx11 ?_) | (apply cx93; refine kl tx93 ?_) | (apply cx92; refine kl tx92 ?_) | (apply cx94; refine kl tx94 ?_) | (apply cx74; refine kl tx74 ?_) | (apply cx97; refine kl tx97 ?_) | (apply cx56; refine kl tx56 ?_) | refine jst ?_ | exact ⟨rfl, rfl⟩ | exact jV | fail))
        refine ⟨⟨1, by omega, all_suc hi.2 hi2 ⟨h1, h2, fun q => absurd q (Nat.not_lt_zero _)⟩⟩, by simp only; omega, ?_⟩
        exact jw []
      | succ u =>
        have hi3 : u < rows.length := by omega
        have hzr2 := (z4 u hi3).1
        have lp1 := pkR_len (l := ppN s[k]) (r := rows[u])
        have lp2 := pkR_len (l := ppN s[k]) (r := rows[u + 1])
        have hK : T 97 [aE (ppN s[k]), aE (pkR (ppN s[k]) rows[u]), aE (pkR (ppN s[k]) rows[u + 1])] [vB (lkK (ppN s[k]) (pkR (ppN s[k]) rows[u]) (pkR (ppN s[k]) rows[u + 1]))] [none, none, none] := tx97
        cases h3 : lkK (ppN s[k]) (pkR (ppN s[k]) rows[u]) (pkR (ppN s[k]) rows[u + 1])
        · rw [h3] at hK
          repeat' ((conv => whnf); (first | (apply cx92; refine kl (hR) ?_) | (apply cx94; refine kl (hL) ?_) | (apply cx93; refine kl (tx93 (d := s[k])) ?_) | (apply cx97; refine kl (hK) ?_) | (apply cx74; refine kl (tx74 (d := s[k]) (r := rows[u])) ?_) | (apply cx74; refine kl (tx74 (d := s[k]) (r := rows[u + 1])) ?_) | refine Exists.intro ((u : Nat) : Int) (And.intro ((i64_in _ (by omega)).trans (by omega)) ?_) | refine And.intro ⟨by omega, by omega⟩ (Exists.intro _ (And.intro (rdI (i := u) (by omega) (by omega)) ?_)) | refine k0 ?_ | refine jA fun _ => ?_ | refine jB fun _ => ?_ | refine kC (fun _ => ?_) fun _ => ?_ | (apply cx11; refine kl tx11 ?_) | (apply cx93; refine kl tx93 ?_) | (apply cx92; refine kl tx92 ?_) | (apply cx94; refine kl tx94 ?_) | (apply cx74; refine kl tx74 ?_) | (apply cx97; refine kl tx97 ?_) | (apply cx56; refine kl tx56 ?_) | refine jst ?_ | exact ⟨rfl, rfl⟩ | exact jV | fail))
          exact ⟨vB0 (bOf_n fun q => bft h3 ((q.1 (u + 1) hi2).ls (by omega))), rfl⟩
        · rw [h3] at hK
          repeat' ((conv => whnf); (first | (apply cx92; refine kl (hR) ?_) | (apply cx94; refine kl (hL) ?_) | (apply cx93; refine kl (tx93 (d := s[k])) ?_) | (apply cx97; refine kl (hK) ?_) | (apply cx74; refine kl (tx74 (d := s[k]) (r := rows[u])) ?_) | (apply cx74; refine kl (tx74 (d := s[k]) (r := rows[u + 1])) ?_) | refine Exists.intro ((u : Nat) : Int) (And.intro ((i64_in _ (by omega)).trans (by omega)) ?_) | refine And.intro ⟨by omega, by omega⟩ (Exists.intro _ (And.intro (rdI (i := u) (by omega) (by omega)) ?_)) | refine k0 ?_ | refine jA fun _ => ?_ | refine jB fun _ => ?_ | refine kC (fun _ => ?_) fun _ => ?_ | (apply cx11; refine kl tx11 ?_) | (apply cx93; refine kl tx93 ?_) | (apply cx92; refine kl tx92 ?_) | (apply cx94; refine kl tx94 ?_) | (apply cx74; refine kl tx74 ?_) | (apply cx97; refine kl tx97 ?_) | (apply cx56; refine kl tx56 ?_) | refine jst ?_ | exact ⟨rfl, rfl⟩ | exact jV | fail))
          refine ⟨⟨u + 1 + 1, by omega, all_suc hi.2 hi2 ⟨h1, h2, fun _ => h3⟩⟩, by simp only; omega, ?_⟩
          exact jw []
    · obtain rfl : u = rows.length := by omega
      have hrw := hi.2
      repeat' ((conv => whnf); (first | refine k0 ?_ | refine jA fun _ => ?_ | refine jB fun _ => ?_ | refine kC (fun _ => ?_) fun _ => ?_ | (apply cx11; refine kl tx11 ?_) | (apply cx93; refine kl tx93 ?_) | (apply cx92; refine kl tx92 ?_) | (apply cx94; refine kl tx94 ?_) | (apply cx74; refine kl tx74 ?_) | (apply cx97; refine kl tx97 ?_) | (apply cx56; refine kl tx56 ?_) | refine jst ?_ | exact ⟨rfl, rfl⟩ | exact jV | fail))
      conv => whnf
      refine loopk (ι := Nat) (fun i => i ≤ rows.length ∧ ∀ j (h : j < rows.length), j < i → tkN s[k] rows rows[j] = false) (fun i => rows.length - i) (0) [2, 7] (fun i => [(10, .v false [i6 i])]) [none, none, none, some fun _ => some (true, dfC false s[k])] ?_
      refine ⟨⟨by omega, by intros; omega⟩, ?_, fun w hw => ?_⟩
      · exact jw []
      · repeat' ((conv => whnf); (first | refine k0 ?_ | (apply cx11; refine kl tx11 ?_) | (apply cx93; refine kl tx93 ?_) | (apply cx92; refine kl tx92 ?_) | (apply cx94; refine kl tx94 ?_) | (apply cx74; refine kl tx74 ?_) | (apply cx97; refine kl tx97 ?_) | (apply cx56; refine kl tx56 ?_) | refine jst ?_ | exact ⟨rfl, rfl⟩ | exact jV | fail))
        conv => whnf
        refine ⟨fun hlt2 => ?_, fun hge2 => ?_⟩
        · have hw2 : w < rows.length := by omega
          have hzr2 := (z4 w hw2).1
          have hT : T 56 [.val true (dfC false s[k]), aE rows, aE rows[w]] [vB (tkN s[k] rows rows[w])] [none, none, none] := tx56 hcd
          cases h5 : tkN s[k] rows rows[w]
          · rw [h5] at hT
            repeat' ((conv => whnf); (first | (apply cx56; refine kl (hT) ?_) | refine k0 ?_ | refine jA fun _ => ?_ | refine jB fun _ => ?_ | refine kC (fun _ => ?_) fun _ => ?_ | (apply cx11; refine kl tx11 ?_) | (apply cx93; refine kl tx93 ?_) | (apply cx92; refine kl tx92 ?_) | (apply cx94; refine kl tx94 ?_) | (apply cx74; refine kl tx74 ?_) | (apply cx97; refine kl tx97 ?_) | (apply cx56; refine kl tx56 ?_) | refine jst ?_ | exact ⟨rfl, rfl⟩ | exact jV | fail))
            refine ⟨⟨w + 1, by omega, all_suc hw.2 hw2 h5⟩, by simp only; omega, ?_⟩
            exact jw []
          · rw [h5] at hT
            repeat' ((conv => whnf); (first | (apply cx56; refine kl (hT) ?_) | refine k0 ?_ | refine jA fun _ => ?_ | refine jB fun _ => ?_ | refine kC (fun _ => ?_) fun _ => ?_ | (apply cx11; refine kl tx11 ?_) | (apply cx93; refine kl tx93 ?_) | (apply cx92; refine kl tx92 ?_) | (apply cx94; refine kl tx94 ?_) | (apply cx74; refine kl tx74 ?_) | (apply cx97; refine kl tx97 ?_) | (apply cx56; refine kl tx56 ?_) | refine jst ?_ | exact ⟨rfl, rfl⟩ | exact jV | fail))
            exact ⟨vB0 (bOf_n fun q => bft (q.2 w hw2) h5), rfl⟩
        · obtain rfl : w = rows.length := by omega
          repeat' ((conv => whnf); (first | refine k0 ?_ | refine jA fun _ => ?_ | refine jB fun _ => ?_ | refine kC (fun _ => ?_) fun _ => ?_ | (apply cx11; refine kl tx11 ?_) | (apply cx93; refine kl tx93 ?_) | (apply cx92; refine kl tx92 ?_) | (apply cx94; refine kl tx94 ?_) | (apply cx74; refine kl tx74 ?_) | (apply cx97; refine kl tx97 ?_) | (apply cx56; refine kl tx56 ?_) | refine jst ?_ | exact ⟨rfl, rfl⟩ | exact jV | fail))
          exact ⟨vB1 (bOf_y ⟨fun j hj => hrw j hj hj, fun j hj => hw.2 j hj hj⟩), rfl⟩

theorem cx68 {P : Program} {X : FuncId → List Arg → List (Bool × List Cell) → List (Option (List Cell)) → Prop} {a : List Arg} {Q : List (Bool × List Cell) → List (Option (List Cell)) → Prop} (h : ∃ b vals outs, a = b ∧ D P X (.call 68 b vals outs) ∧ Q vals outs) : CallS P X 68 a Q := ⟨h⟩
end

section
open Go Go.RowKit Go.IntWalk

open Enc (sz cs)

attribute [local irreducible] IntKind.wrap

attribute [local irreducible] bOf fbN tbI tbS

theorem zMdb_r {m : Tbs} (h : zMdb m ≤ 2000000) {k : Nat} (hk : k < m.length) : RwB m[k] := by
  have h3 := cnt_mem (c := zTab) (List.getElem_mem hk)
  have h0 : zMdb m = m.length + cnt zTab m := rfl
  have e3 : zTab m[k] = m[k].length + cnt zRow m[k] := rfl
  refine ⟨by omega, fun j hj => ?_⟩
  have h4 := cnt_mem (c := zRow) (List.getElem_mem hj)
  have e4 : zRow m[k][j] = m[k][j].length + cnt zVl m[k][j] := rfl
  refine ⟨by omega, fun i hi => ?_⟩
  have h5 := cnt_mem (c := zVl) (List.getElem_mem hi)
  have e5 : zVl m[k][j][i] = m[k][j][i].s.size := rfl
  omega

noncomputable def moI (s : List Df) (m : Tbs) : Bool := bOf (fbN s = -1 ∧ m.length = s.length ∧ ∀ t (h : t < s.length) (h2 : t < m.length), tbI s[t] t m[t] = true)

noncomputable def moS (s : List Df) (m : Tbs) : Bool := bOf (fbN s = -1 ∧ m.length = s.length ∧ ∀ t (h : t < s.length) (h2 : t < m.length), tbS s[t] t m[t] = true)

set_option maxHeartbeats 2000000 in
set_option maxRecDepth 100000 in
theorem tx17 {s : List Df} {m : Tbs} (hs : zSc s ≤ 2000000 := by first | assumption | omega | (simp; done) | (simp; omega)) (hm : zMdb m ≤ 2000000 := by first | assumption | omega | (simp; done) | (simp; omega)) : T 17 [aE s, .val true [slE false m]] [vB (moI s m)] [none, none] := by
  refine w_call md [] Tryz.func17 rfl ?_
  obtain ⟨q1, q2⟩ := zSc_b hs
  obtain ⟨z1, z2⟩ := zMdb_b hm
  by_cases h : fbN s = -1
  · have hF : T 59 [aE s] [vI (-1)] [none] := by
      have h2 := tx59 (s := s)
      rwa [h] at h2
    by_cases hl : m.length = s.length
    · repeat' ((conv => whnf); (first | (apply cx59; refine kl (hF) ?_) | refine k0 ?_ | refine jA fun _ => ?_ | refine jB fun _ => ?_ | refine kC (fun _ => ?_) fun _ => ?_ | (apply cx59; refine kl tx59 ?_) | (apply cx60; refine kl tx60 ?_) | refine jst ?_ | exact ⟨rfl, rfl⟩ | exact jV | fail))
      conv => whnf
      refine loopk (ι := Nat) (fun i => i ≤ s.length ∧ ∀ j (h : j < s.length), j < i → ∀ h2 : j < m.length, tbI s[j] j m[j] = true) (fun i => s.length - i) (0) [0, 3, 18] (fun i => [(19, .v false [i6 i])]) [none, none, some fun _ => some (true, [slE false m])] ?_
      refine ⟨⟨by omega, by intros; omega⟩, ?_, fun u hi => ?_⟩
      · exact jw []
      · repeat' ((conv => whnf); (first | refine k0 ?_ | (apply cx59; refine kl tx59 ?_) | (apply cx60; refine kl tx60 ?_) | refine jst ?_ | exact ⟨rfl, rfl⟩ | exact jV | fail))
        conv => whnf
        refine ⟨fun hlt => ?_, fun hge => ?_⟩
        · have hi2 : u < s.length := by omega
          have hi3 : u < m.length := by omega
          have hrb := zMdb_r hm hi3
          have hT : T 60 [aE s, aI (u : Nat), aE m[u]] [vB (tbI s[u] u m[u])] [none, none, none] := tx60 h hi2
          cases h5 : tbI s[u] u m[u]
          · rw [h5] at hT
            repeat' ((conv => whnf); (first | refine And.intro ⟨by omega, by omega⟩ (Exists.intro _ (And.intro (rdI (i := u) (by omega) (by omega)) ?_)) | (apply cx60; refine kl (hT) ?_) | refine k0 ?_ | refine jA fun _ => ?_ | refine jB fun _ => ?_ | refine kC (fun _ => ?_) fun _ => ?_ | (apply cx59; refine kl tx59 ?_) | (apply cx60; refine kl tx60 ?_) | refine jst ?_ | exact ⟨rfl, rfl⟩ | exact jV | fail))
            exact ⟨vB0 (bOf_n fun q => bft h5 (q.2.2 u hi2 hi3)), rfl⟩
          · rw [h5] at hT
            repeat' ((conv => whnf); (first | refine And.intro ⟨by omega, by omega⟩ (Exists.intro _ (And.intro (rdI (i := u) (by omega) (by omega)) ?_)) | (apply cx60; refine kl (hT) ?_) | refine k0 ?_ | refine jA fun _ => ?_ | refine jB fun _ => ?_ | refine kC (fun _ => ?_) fun _ => ?_ | (apply cx59; refine kl tx59 ?_) | (apply cx60; refine kl tx60 ?_) | refine jst ?_ | exact ⟨rfl, rfl⟩ | exact jV | fail))
            refine ⟨⟨u + 1, by omega, all_suc hi.2 hi2 (fun _ => h5)⟩, by simp only; omega, ?_⟩
            exact jw []
        · obtain rfl : u = s.length := by omega
          repeat' ((conv => whnf); (first | refine k0 ?_ | refine jA fun _ => ?_ | refine jB fun _ => ?_ | refine kC (fun _ => ?_) fun _ => ?_ | (apply cx59; refine kl tx59 ?_) | (apply cx60; refine kl tx60 ?_) | refine jst ?_ | exact ⟨rfl, rfl⟩ | exact jV | fail))
          exact ⟨vB1 (bOf_y ⟨h, hl, fun t h1 h2 => hi.2 t h1 h1 h2⟩), rfl⟩
    · repeat' ((conv => whnf); (first | (apply cx59; refine kl (hF) ?_) | refine k0 ?_ | refine jA fun _ => ?_ | refine jB fun _ => ?_ | refine kC (fun _ => ?_) fun _ => ?_ | (apply cx59; refine kl tx59 ?_) | (apply cx60; refine kl tx60 ?_) | refine jst ?_ | exact ⟨rfl, rfl⟩ | exact jV | fail))
      all_goals exact ⟨vB0 (bOf_n fun q => hl q.2.1), rfl⟩
  · repeat' ((conv => whnf); (first | (apply cx59; refine kl (tx59 (s := s)) ?_) | refine k0 ?_ | refine jA fun _ => ?_ | refine jB fun _ => ?_ | refine kC (fun _ => ?_) fun _ => ?_ | (apply cx59; refine kl tx59 ?_) | (apply cx60; refine kl tx60 ?_) | refine jst ?_ | exact ⟨rfl, rfl⟩ | exact jV | fail))
    exact ⟨vB0 (bOf_n fun q => h q.1), rfl⟩

theorem cx17 {P : Program} {X : FuncId → List Arg → List (Bool × List Cell) → List (Option (List Cell)) → Prop} {a : List Arg} {Q : List (Bool × List Cell) → List (Option (List Cell)) → Prop} (h : ∃ b vals outs, a = b ∧ D P X (.call 17 b vals outs) ∧ Q vals outs) : CallS P X 17 a Q := ⟨h⟩

set_option maxHeartbeats 2000000 in
set_option maxRecDepth 100000 in
theorem tx26 {s : List Df} {m : Tbs} (hs : zSc s ≤ 2000000 := by first | assumption | omega | (simp; done) | (simp; omega)) (hm : zMdb m ≤ 2000000 := by first | assumption | omega | (simp; done) | (simp; omega)) : T 26 [aE s, .val true [slE false m]] [vB (moS s m)] [none, none] := by
  refine w_call md [] Tryz.func26 rfl ?_
  obtain ⟨q1, q2⟩ := zSc_b hs
  obtain ⟨z1, z2⟩ := zMdb_b hm
  by_cases h : fbN s = -1
  · have hF : T 29 [aE s] [vI (-1)] [none] := by
      have h2 := tx29 (s := s)
      rwa [h] at h2
    by_cases hl : m.length = s.length
    · repeat' ((conv => whnf); (first | (apply cx29; refine kl (hF) ?_) | refine k0 ?_ | refine jA fun _ => ?_ | refine jB fun _ => ?_ | refine kC (fun _ => ?_) fun _ => ?_ | (apply cx29; refine kl tx29 ?_) | (apply cx68; refine kl tx68 ?_) | refine jst ?_ | exact ⟨rfl, rfl⟩ | exact jV | fail))
      conv => whnf
      refine loopk (ι := Nat) (fun i => i ≤ s.length ∧ ∀ j (h : j < s.length), j < i → ∀ h2 : j < m.length, tbS s[j] j m[j] = true) (fun i => s.length - i) (0) [0, 3] (fun i => [(5, .v false [i6 i])]) [none, none, some fun _ => some (true, [slE false m])] ?_
      refine ⟨⟨by omega, by intros; omega⟩, ?_, fun u hi => ?_⟩
      · exact jw []
      · repeat' ((conv => whnf); (first | refine k0 ?_ | (apply cx29; refine kl tx29 ?_) | (apply cx68; refine kl tx68 ?_) | refine jst ?_ | exact ⟨rfl, rfl⟩ | exact jV | fail))
        conv => whnf
        refine ⟨fun hlt => ?_, fun hge => ?_⟩
        · have hi2 : u < s.length := by omega
          have hi3 : u < m.length := by omega
          have hrb := zMdb_r hm hi3
          have hT : T 68 [aE s, aI (u : Nat), aE m[u]] [vB (tbS s[u] u m[u])] [none, none, none] := tx68 h hi2
          cases h5 : tbS s[u] u m[u]
          · rw [h5] at hT
            repeat' ((conv => whnf); (first | refine And.intro ⟨by omega, by omega⟩ (Exists.intro _ (And.intro (rdI (i := u) (by omega) (by omega)) ?_)) | (apply cx68; refine kl (hT) ?_) | refine k0 ?_ | refine jA fun _ => ?_ | refine jB fun _ => ?_ | refine kC (fun _ => ?_) fun _ => ?_ | (apply cx29; refine kl tx29 ?_) | (apply cx68; refine kl tx68 ?_) | refine jst ?_ | exact ⟨rfl, rfl⟩ | exact jV | fail))
            exact ⟨vB0 (bOf_n fun q => bft h5 (q.2.2 u hi2 hi3)), rfl⟩
          · rw [h5] at hT
            repeat' ((conv => whnf); (first | refine And.intro ⟨by omega, by omega⟩ (Exists.intro _ (And.intro (rdI (i := u) (by omega) (by omega)) ?_)) | (apply cx68; refine kl (hT) ?_) | refine k0 ?_ | refine jA fun _ => ?_ | refine jB fun _ => ?_ | refine kC (fun _ => ?_) fun _ => ?_ | (apply cx29; refine kl tx29 ?_) | (apply cx68; refine kl tx68 ?_) | refine jst ?_ | exact ⟨rfl, rfl⟩ | exact jV | fail))
            refine ⟨⟨u + 1, by omega, all_suc hi.2 hi2 (fun _ => h5)⟩, by simp only; omega, ?_⟩
            exact jw []
        · obtain rfl : u = s.length := by omega
          repeat' ((conv => whnf); (first | refine k0 ?_ | refine jA fun _ => ?_ | refine jB fun _ => ?_ | refine kC (fun _ => ?_) fun _ => ?_ | (apply cx29; refine kl tx29 ?_) | (apply cx68; refine kl tx68 ?_) | refine jst ?_ | exact ⟨rfl, rfl⟩ | exact jV | fail))
          exact ⟨vB1 (bOf_y ⟨h, hl, fun t h1 h2 => hi.2 t h1 h1 h2⟩), rfl⟩
    · repeat' ((conv => whnf); (first | (apply cx29; refine kl (hF) ?_) | refine k0 ?_ | refine jA fun _ => ?_ | refine jB fun _ => ?_ | refine kC (fun _ => ?_) fun _ => ?_ | (apply cx29; refine kl tx29 ?_) | (apply cx68; refine kl tx68 ?_) | refine jst ?_ | exact ⟨rfl, rfl⟩ | exact jV | fail))
      all_goals exact ⟨vB0 (bOf_n fun q => hl q.2.1), rfl⟩
  · repeat' ((conv => whnf); (first | (apply cx29; refine kl (tx29 (s := s)) ?_) | refine k0 ?_ | refine jA fun _ => ?_ | refine jB fun _ => ?_ | refine kC (fun _ => ?_) fun _ => ?_ | (apply cx29; refine kl tx29 ?_) | (apply cx68; refine kl tx68 ?_) | refine jst ?_ | exact ⟨rfl, rfl⟩ | exact jV | fail))
    exact ⟨vB0 (bOf_n fun q => h q.1), rfl⟩

theorem cx26 {P : Program} {X : FuncId → List Arg → List (Bool × List Cell) → List (Option (List Cell)) → Prop} {a : List Arg} {Q : List (Bool × List Cell) → List (Option (List Cell)) → Prop} (h : ∃ b vals outs, a = b ∧ D P X (.call 26 b vals outs) ∧ Q vals outs) : CallS P X 26 a Q := ⟨h⟩
end

section
open Go Go.RowKit Go.IntWalk

open Enc (sz cs)

attribute [local irreducible] IntKind.wrap

/-! ### Tables that are right, in both packages' words -/

theorem bls_i : ∀ l : List UInt8, Op.bytesLess l l = false
  | [] => rfl
  | a :: x => by
    have := bls_i x
    simp only [Op.bytesLess, this, Bool.and_false, Bool.or_false, decide_eq_false_iff_not]
    exact UInt8.lt_irrefl a

theorem bls_t : ∀ {x y z : List UInt8}, Op.bytesLess x y = true → Op.bytesLess y z = true → Op.bytesLess x z = true
  | _, [], _, h, _ => by simp [Op.bytesLess] at h
  | _, _ :: _, [], _, h => by simp [Op.bytesLess] at h
  | [], _ :: _, _ :: _, _, _ => rfl
  | a :: x, b :: y, c :: z, h1, h2 => by
    simp only [Op.bytesLess, Bool.or_eq_true, decide_eq_true_eq, Bool.and_eq_true, beq_iff_eq] at *
    rcases h1 with h1 | ⟨rfl, h1⟩
    · rcases h2 with h2 | ⟨rfl, h2⟩
      · exact .inl (UInt8.lt_trans h1 h2)
      · exact .inl h1
    · rcases h2 with h2 | ⟨rfl, h2⟩
      · exact .inl h2
      · exact .inr ⟨rfl, bls_t h1 h2⟩

theorem LtV_i {a : Vl} : ¬ LtV a a := fun q => by
  rcases q with q | ⟨_, q | ⟨_, q⟩⟩
  · omega
  · omega
  · exact bft (bls_i _) q

theorem LtV_t {a b c : Vl} (h1 : LtV a b) (h2 : LtV b c) : LtV a c := by
  rcases h1 with h1 | ⟨e1, h1⟩
  · rcases h2 with h2 | ⟨e2, _⟩
    · exact .inl (by omega)
    · exact .inl (by omega)
  · rcases h2 with h2 | ⟨e2, h2⟩
    · exact .inl (by omega)
    · refine .inr ⟨by omega, ?_⟩
      rcases h1 with h1 | ⟨f1, h1⟩
      · rcases h2 with h2 | ⟨f2, _⟩
        · exact .inl (by omega)
        · exact .inl (by omega)
      · rcases h2 with h2 | ⟨f2, h2⟩
        · exact .inl (by omega)
        · exact .inr ⟨by omega, bls_t h1 h2⟩

theorem lpV_i {p : Prt} {a : Vl} : lpV p a a = false := by
  have h : lsV a a = false := bOf_n LtV_i
  unfold lpV
  split <;> exact h

theorem lpV_t {p : Prt} {a b c : Vl} (h1 : lpV p a b = true) (h2 : lpV p b c = true) : lpV p a c = true := by
  cases hd : p.desc with
  | true =>
    rw [lpV_d hd] at *
    exact bOf_y (LtV_t (bOf_t h2) (bOf_t h1))
  | false =>
    rw [lpV_a hd] at *
    exact bOf_y (LtV_t (bOf_t h1) (bOf_t h2))

theorem lkK_ir {l : List Prt} {a : List Vl} : lkK l a a = false := bOf_n fun q => by
  rcases q with ⟨i, q⟩ | ⟨q, _⟩
  · exact q.lt.1 rfl
  · omega

theorem lkK_tr {l : List Prt} {a b c : List Vl} (e1 : a.length = b.length) (e2 : b.length = c.length) (h1 : lkK l a b = true) (h2 : lkK l b c = true) : lkK l a c = true := by
  have h1 := bOf_t h1
  have h2 := bOf_t h2
  rcases h1 with ⟨i, p⟩ | ⟨p, _⟩
  rotate_left
  · omega
  rcases h2 with ⟨j, q⟩ | ⟨q, _⟩
  rotate_left
  · omega
  refine bOf_y (.inl ?_)
  have pa := p.la
  have pb := p.lb
  have qb := q.la
  have qc := q.lb
  rcases Nat.lt_trichotomy i j with h | h | h
  · have e : b[i] = c[i] := q.eq i pb (by omega) h
    refine ⟨i, pa, by omega, p.ll, fun m h1 h2 hm => (p.eq m h1 (by omega) hm).trans (q.eq m (by omega) h2 (by omega)), ?_, ?_⟩
    · rw [← e]; exact p.lt.1
    · rw [← e]; exact p.lt.2
  · subst h
    refine ⟨i, pa, qc, p.ll, fun m h1 h2 hm => (p.eq m h1 (by omega) hm).trans (q.eq m (by omega) h2 hm), ?_, lpV_t p.lt.2 q.lt.2⟩
    intro e
    have := lpV_t p.lt.2 q.lt.2
    rw [e, lpV_i] at this
    cases this
  · have e : a[j] = b[j] := p.eq j (by omega) (by omega) h
    refine ⟨j, by omega, qc, q.ll, fun m h1 h2 hm => (p.eq m h1 (by omega) (by omega)).trans (q.eq m (by omega) h2 hm), ?_, ?_⟩
    · rw [e]; exact q.lt.1
    · rw [e]; exact q.lt.2

theorem key_lt {d : Df} {k : Nat} {rows : List (List Vl)} (h : ∀ j (hj : j < rows.length), RwI d k rows j hj) : ∀ (n i : Nat) (hi : i < rows.length) (hj : i + n + 1 < rows.length), lkK (ppN d) (pkR (ppN d) rows[i]) (pkR (ppN d) rows[i + n + 1]) = true
  | 0, i, hi, hj => (h (i + 1) hj).ls (by omega)
  | n + 1, i, hi, hj => by
    have h1 := key_lt h n i hi (by omega)
    have h2 := (h (i + (n + 1) + 1) hj).ls (by omega)
    exact lkK_tr (by rw [pkR_len, pkR_len]) (by rw [pkR_len, pkR_len]) h1 h2

theorem tbIS {d : Df} {k : Nat} {rows : List (List Vl)} : tbI d k rows = tbS d k rows := by
  cases h : tbS d k rows with
  | true =>
    obtain ⟨h1, h2⟩ := bOf_t h
    refine bOf_y fun j hj => ⟨h1 j hj, fun i hi hij => bOf_n fun q => ?_⟩
    obtain ⟨u, hu, q⟩ := q
    refine bOf_f (h2 j hj) ⟨u, hu, q.uni, i, hi, q.by_, fun e => ?_⟩
    obtain ⟨n, rfl⟩ : ∃ n, j = i + n + 1 := ⟨j - i - 1, by omega⟩
    have := key_lt h1 n i hi hj
    rw [e, lkK_ir] at this
    cases this
  | false =>
    refine bOf_n fun q => bOf_f h ⟨fun j hj => (q j hj).rw_, fun j hj => bOf_n fun p => ?_⟩
    obtain ⟨u, hu, p⟩ := p
    obtain ⟨v, hv, p2⟩ := p.ex
    rcases Nat.lt_trichotomy v j with h3 | h3 | h3
    · exact bOf_f ((q j hj).cl v hv h3) ⟨u, hu, p.uni, p2.by_⟩
    · subst h3; exact p2.ne rfl
    · exact bOf_f ((q v hv).cl j hj h3) ⟨u, hu, p.uni, p2.by_.symm⟩

theorem moIS {s : List Df} {m : Tbs} : moI s m = moS s m := by
  unfold moI moS
  congr 1
  refine propext ⟨fun q => ⟨q.1, q.2.1, fun t h h2 => ?_⟩, fun q => ⟨q.1, q.2.1, fun t h h2 => ?_⟩⟩
  · rw [← tbIS]; exact q.2.2 t h h2
  · rw [tbIS]; exact q.2.2 t h h2
end

section
open Go Go.RowKit Go.IntWalk

open Enc (sz cs)

attribute [local irreducible] IntKind.wrap

/-! ### Keys in order; a row put in its place -/

theorem bls_tri : ∀ {x y : List UInt8}, x ≠ y → Op.bytesLess x y = true ∨ Op.bytesLess y x = true
  | [], [], h => absurd rfl h
  | [], _ :: _, _ => .inl rfl
  | _ :: _, [], _ => .inr rfl
  | a :: x, b :: y, h => by
    simp only [Op.bytesLess, Bool.or_eq_true, decide_eq_true_eq, Bool.and_eq_true, beq_iff_eq]
    by_cases e : a = b
    · subst e
      rcases bls_tri (x := x) (y := y) (fun q => h (by rw [q])) with q | q
      · exact .inl (.inr ⟨rfl, q⟩)
      · exact .inr (.inr ⟨rfl, q⟩)
    · have hne : a.toNat ≠ b.toNat := fun q => e (UInt8.toNat_inj.1 q)
      rcases Nat.lt_or_gt_of_ne hne with q | q
      · exact .inl (.inl (UInt8.lt_iff_toNat_lt.2 q))
      · exact .inr (.inl (UInt8.lt_iff_toNat_lt.2 q))

theorem ba_inj {s t : ByteArray} (h : s.toList = t.toList) : s = t := by
  rw [ByteArray.toList_eq, ByteArray.toList_eq] at h
  obtain ⟨⟨a⟩⟩ := s
  obtain ⟨⟨b⟩⟩ := t
  have h : a = b := h
  rw [h]

theorem LtV_tri {a b : Vl} (h : a ≠ b) : LtV a b ∨ LtV b a := by
  obtain ⟨k, n, s⟩ := a
  obtain ⟨k2, n2, s2⟩ := b
  by_cases e1 : k = k2
  · by_cases e2 : n = n2
    · subst e1 e2
      have e3 : s ≠ s2 := fun q => h (by rw [q])
      rcases bls_tri (x := s.toList) (y := s2.toList) (fun q => e3 (ba_inj q)) with q | q
      · exact .inl (.inr ⟨rfl, .inr ⟨rfl, q⟩⟩)
      · exact .inr (.inr ⟨rfl, .inr ⟨rfl, q⟩⟩)
    · rcases Int.lt_or_gt_of_ne e2 with q | q
      · exact .inl (.inr ⟨e1, .inl q⟩)
      · exact .inr (.inr ⟨e1.symm, .inl q⟩)
  · rcases Int.lt_or_gt_of_ne e1 with q | q
    · exact .inl (.inl q)
    · exact .inr (.inl q)

theorem lpV_tri {p : Prt} {a b : Vl} (h : a ≠ b) : lpV p a b = true ∨ lpV p b a = true := by
  cases hd : p.desc with
  | true =>
    rw [lpV_d hd, lpV_d hd]
    rcases LtV_tri h with q | q
    · exact .inr (bOf_y q)
    · exact .inl (bOf_y q)
  | false =>
    rw [lpV_a hd, lpV_a hd]
    rcases LtV_tri h with q | q
    · exact .inl (bOf_y q)
    · exact .inr (bOf_y q)

/-- Two lists of one length that are not the same differ first somewhere. -/
theorem dif_first {α : Type} : ∀ {a b : List α}, a.length = b.length → a ≠ b → ∃ i, ∃ h1 : i < a.length, ∃ h2 : i < b.length, a[i] ≠ b[i] ∧ ∀ j (h3 : j < a.length) (h4 : j < b.length), j < i → a[j] = b[j]
  | [], [], _, h => absurd rfl h
  | [], _ :: _, h, _ => by simp at h
  | _ :: _, [], h, _ => by simp at h
  | x :: a, y :: b, hl, h => by
    by_cases e : x = y
    · subst e
      obtain ⟨i, h1, h2, h3, h4⟩ := dif_first (a := a) (b := b) (by simpa using hl) (fun q => h (by rw [q]))
      refine ⟨i + 1, by simpa using h1, by simpa using h2, by simpa using h3, fun j q1 q2 q3 => ?_⟩
      cases j with
      | zero => rfl
      | succ j => simpa using h4 j (by simpa using q1) (by simpa using q2) (by omega)
    · exact ⟨0, by simp, by simp, by simpa using e, fun j _ _ q => by omega⟩

theorem lkK_tri {l : List Prt} {a b : List Vl} (e1 : a.length = l.length) (e2 : b.length = l.length) (h : a ≠ b) : lkK l a b = true ∨ lkK l b a = true := by
  obtain ⟨i, h1, h2, h3, h4⟩ := dif_first (by omega) h
  rcases lpV_tri (p := l[i]) h3 with q | q
  · exact .inl (bOf_y (.inl ⟨i, h1, h2, by omega, h4, h3, q⟩))
  · exact .inr (bOf_y (.inl ⟨i, h2, h1, by omega, fun j q1 q2 q3 => (h4 j q2 q1 q3).symm, fun e => h3 e.symm, q⟩))

/- A step of spec's putting a row in its place. -/

open Classical in
noncomputable def sgS (l : List Prt) (row : List Vl) (x : List (List Vl) × Bool) (r : List Vl) : List (List Vl) × Bool :=
  let y := if x.2 = false ∧ lkK l (pkR l r) (pkR l row) = false then (x.1 ++ [row], true) else x
  if pkR l r = pkR l row then y else (y.1 ++ [r], y.2)

/- A step of impl's. -/

open Classical in
noncomputable def sgI (l : List Prt) (key row : List Vl) (x : List (List Vl) × Bool) (r : List Vl) : List (List Vl) × Bool :=
  if pkR l r = key then x else
    if x.2 = false ∧ lkK l key (pkR l r) = true then (x.1 ++ [row, r], true) else (x.1 ++ [r], x.2)

def fnS (row : List Vl) (x : List (List Vl) × Bool) : List (List Vl) := if x.2 = true then x.1 else x.1 ++ [row]

noncomputable def seS (l : List Prt) (rows : List (List Vl)) (row : List Vl) : List (List Vl) := fnS row (rows.foldl (sgS l row) ([], false))

noncomputable def seI (l : List Prt) (rows : List (List Vl)) (row : List Vl) : List (List Vl) := fnS row (rows.foldl (sgI l (pkR l row) row) ([], false))

theorem sgS_t {l : List Prt} {row : List Vl} : ∀ {rs out : List (List Vl)}, (∀ r ∈ rs, pkR l r ≠ pkR l row) → rs.foldl (sgS l row) (out, true) = (out ++ rs, true)
  | [], out, _ => by simp
  | r :: rs, out, h => by
    have h1 := h r (List.mem_cons_self ..)
    have e : sgS l row (out, true) r = (out ++ [r], true) := by
      simp only [sgS, if_neg h1, Bool.true_eq_false, false_and, if_false]
    rw [List.foldl_cons, e, sgS_t fun x hx => h x (List.mem_cons_of_mem _ hx)]
    simp

theorem sgI_t {l : List Prt} {key row : List Vl} : ∀ {rs out : List (List Vl)}, (∀ r ∈ rs, pkR l r ≠ key) → rs.foldl (sgI l key row) (out, true) = (out ++ rs, true)
  | [], out, _ => by simp
  | r :: rs, out, h => by
    have h1 := h r (List.mem_cons_self ..)
    have e : sgI l key row (out, true) r = (out ++ [r], true) := by
      simp only [sgI, if_neg h1, Bool.true_eq_false, false_and, if_false]
    rw [List.foldl_cons, e, sgI_t fun x hx => h x (List.mem_cons_of_mem _ hx)]
    simp

theorem pk_len2 {l : List Prt} {a b : List Vl} : (pkR l a).length = (pkR l b).length := by rw [pkR_len, pkR_len]

theorem lk_as {l : List Prt} {a b : List Vl} (e : a.length = b.length) (h : lkK l a b = true) : lkK l b a = false := by
  cases h2 : lkK l b a with
  | false => rfl
  | true =>
    have := lkK_tr e e.symm h h2
    rw [lkK_ir] at this
    cases this

theorem lk_ne {l : List Prt} {a b : List Vl} (h : lkK l a b = true) : a ≠ b := fun e => by
  rw [e, lkK_ir] at h
  cases h

/-- Rows in the order of their keys. -/
def Srt (l : List Prt) : List (List Vl) → Prop
  | [] => True
  | r :: rs => (∀ x ∈ rs, lkK l (pkR l r) (pkR l x) = true) ∧ Srt l rs

theorem sg_same {l : List Prt} {row : List Vl} : ∀ {rs out : List (List Vl)}, Srt l rs → fnS row (rs.foldl (sgI l (pkR l row) row) (out, false)) = fnS row (rs.foldl (sgS l row) (out, false))
  | [], out, _ => rfl
  | r :: rs, out, h => by
    obtain ⟨h1, h2⟩ := h
    rw [List.foldl_cons, List.foldl_cons]
    by_cases e : pkR l r = pkR l row
    · have hall : ∀ x ∈ rs, pkR l x ≠ pkR l row := fun x hx q => lk_ne (h1 x hx) (by rw [e, q])
      have e1 : sgI l (pkR l row) row (out, false) r = (out, false) := by simp only [sgI, if_pos e]
      have e2 : sgS l row (out, false) r = (out ++ [row], true) := by
        simp only [sgS, e, lkK_ir, and_self, if_true]
      rw [e1, e2, sgS_t hall]
      cases rs with
      | nil => simp [fnS]
      | cons r2 rs =>
        have e3 : sgI l (pkR l row) row (out, false) r2 = (out ++ [row, r2], true) := by
          have hl := h1 r2 (List.mem_cons_self ..)
          rw [e] at hl
          simp only [sgI, if_neg (hall r2 (List.mem_cons_self ..)), hl, and_self, if_true]
        rw [List.foldl_cons, e3, sgI_t fun x hx => hall x (List.mem_cons_of_mem _ hx)]
        simp [fnS]
    · rcases lkK_tri pkR_len pkR_len e with q | q
      · have q2 := lk_as pk_len2 q
        have e1 : sgI l (pkR l row) row (out, false) r = (out ++ [r], false) := by
          simp only [sgI, if_neg e, q2, Bool.false_eq_true, and_false, if_false]
        have e2 : sgS l row (out, false) r = (out ++ [r], false) := by
          simp only [sgS, if_neg e, q, Bool.true_eq_false, and_false, if_false]
        rw [e1, e2]
        exact sg_same h2
      · have q2 := lk_as pk_len2 q
        have e1 : sgI l (pkR l row) row (out, false) r = (out ++ [row, r], true) := by
          simp only [sgI, if_neg e, q, and_self, if_true]
        have e2 : sgS l row (out, false) r = (out ++ [row] ++ [r], true) := by
          simp only [sgS, if_neg e, q2, and_self, if_true]
        have hall : ∀ x ∈ rs, pkR l x ≠ pkR l row := fun x hx q3 => lk_ne (lkK_tr pk_len2 pk_len2 q (h1 x hx)) q3.symm
        rw [e1, e2, sgS_t hall, sgI_t hall]
        simp [fnS]

theorem seIS {l : List Prt} {rows : List (List Vl)} {row : List Vl} (h : Srt l rows) : seI l rows row = seS l rows row := sg_same h

theorem srt_of {d : Df} {k : Nat} {rows : List (List Vl)} (h : ∀ j (hj : j < rows.length), RwI d k rows j hj) : ∀ n, n ≤ rows.length → Srt (ppN d) (rows.drop (rows.length - n))
  | 0, _ => by simp [Srt]
  | n + 1, hn => by
    have hlt : rows.length - (n + 1) < rows.length := by omega
    rw [List.drop_eq_getElem_cons hlt]
    refine ⟨fun x hx => ?_, ?_⟩
    · obtain ⟨i, hi, rfl⟩ := List.getElem_of_mem hx
      simp only [List.length_drop] at hi
      have := key_lt h i (rows.length - (n + 1)) hlt (by omega)
      rw [List.getElem_drop]
      have e : rows.length - (n + 1) + 1 + i = rows.length - (n + 1) + i + 1 := by omega
      simp only [e]
      exact this
    · have e : rows.length - (n + 1) + 1 = rows.length - n := by omega
      rw [e]
      exact srt_of h n (by omega)

theorem tb_srt {d : Df} {k : Nat} {rows : List (List Vl)} (h : ∀ j (hj : j < rows.length), RwI d k rows j hj) : Srt (ppN d) rows := by
  have := srt_of h rows.length (Nat.le_refl _)
  rwa [Nat.sub_self, List.drop_zero] at this

/-! ### What an operation does -/

/-- The key that an operation is about. -/
noncomputable def kyD (d : Df) (o : Opn) : List Vl := if o.kind = 4 then o.row else pkR (ppN d) o.row

theorem kyD_4 {d : Df} {o : Opn} (h : o.kind = 4) : kyD d o = o.row := if_pos h

theorem kyD_n {d : Df} {o : Opn} (h : ¬ o.kind = 4) : kyD d o = pkR (ppN d) o.row := if_neg h

/-- The code of an operation on a table that is there. -/
noncomputable def ofT (d : Df) (k : Nat) (o : Opn) : Int :=
  if o.kind = 4 then (if roOk (ppN d) o.row = true then 0 else 3)
  else if roOk (rpN d) o.row = true then (if lkN d k o.row = true then 7 else 0) else 3

noncomputable def thN (o : Opn) (b : Bool) : Int :=
  if o.kind = 1 ∧ b = true then 4 else if (o.kind = 3 ∨ o.kind = 4) ∧ b = false then 6 else 0

noncomputable def isN (d : Df) (rows : List (List Vl)) (o : Opn) : Bool := decide (0 ≤ atN (ppN d) rows (kyD d o))

/-- The code of an operation on a table. -/
noncomputable def acT (d : Df) (k : Nat) (rows : List (List Vl)) (o : Opn) : Int :=
  if ofT d k o = 0 then
    if thN o (isN d rows o) = 0 then (if o.kind = 4 then 0 else if tkN d rows o.row = true then 5 else 0)
    else thN o (isN d rows o)
  else ofT d k o

/-- The rows behind it. -/
noncomputable def nrN (d : Df) (rows : List (List Vl)) (o : Opn) : List (List Vl) :=
  if o.kind = 4 then rows.take (atN (ppN d) rows o.row).toNat ++ rows.drop ((atN (ppN d) rows o.row).toNat + 1) else seS (ppN d) rows o.row

theorem nrN_4 {d : Df} {rows : List (List Vl)} {o : Opn} {j : Nat} (h : o.kind = 4) (hj : atN (ppN d) rows o.row = j) : nrN d rows o = rows.take j ++ rows.drop (j + 1) := by
  unfold nrN; rw [if_pos h, hj, Int.toNat_natCast]

theorem nrN_n {d : Df} {rows : List (List Vl)} {o : Opn} (h : ¬ o.kind = 4) : nrN d rows o = seS (ppN d) rows o.row := if_neg h

abbrev ApH (s : List Df) (m : Tbs) (o : Opn) : Prop := 0 ≤ o.t ∧ o.t.toNat < s.length ∧ o.t.toNat < m.length

noncomputable def apN (s : List Df) (m : Tbs) (o : Opn) : Tbs × Int :=
  if moS s m = true ∧ inB o.kind 1 4 = true then
    if h : ApH s m o then
      if acT (s[o.t.toNat]'h.2.1) o.t.toNat (m[o.t.toNat]'h.2.2) o = 0 then (m.set o.t.toNat (nrN (s[o.t.toNat]'h.2.1) (m[o.t.toNat]'h.2.2) o), 0)
      else (m, acT (s[o.t.toNat]'h.2.1) o.t.toNat (m[o.t.toNat]'h.2.2) o)
    else (m, 2)
  else (m, 1)

theorem apN_1 {s : List Df} {m : Tbs} {o : Opn} (h : ¬ (moS s m = true ∧ inB o.kind 1 4 = true)) : apN s m o = (m, 1) := if_neg h

theorem apN_2 {s : List Df} {m : Tbs} {o : Opn} (h : moS s m = true ∧ inB o.kind 1 4 = true) (h2 : ¬ ApH s m o) : apN s m o = (m, 2) := by
  unfold apN; rw [if_pos h, dif_neg h2]

theorem apN_e {s : List Df} {m : Tbs} {kd : Int} {row : List Vl} {k : Nat} (h : moS s m = true ∧ inB kd 1 4 = true) (h1 : k < s.length) (h2 : k < m.length) (hc : ¬ acT s[k] k m[k] ⟨kd, k, row⟩ = 0) : apN s m ⟨kd, k, row⟩ = (m, acT s[k] k m[k] ⟨kd, k, row⟩) := by
  unfold apN
  rw [if_pos h, dif_pos ⟨by simp, by simpa using h1, by simpa using h2⟩]
  simp only [Int.toNat_natCast]
  rw [if_neg hc]

theorem apN_y {s : List Df} {m : Tbs} {kd : Int} {row : List Vl} {k : Nat} (h : moS s m = true ∧ inB kd 1 4 = true) (h1 : k < s.length) (h2 : k < m.length) (hc : acT s[k] k m[k] ⟨kd, k, row⟩ = 0) : apN s m ⟨kd, k, row⟩ = (m.set k (nrN s[k] m[k] ⟨kd, k, row⟩), 0) := by
  unfold apN
  rw [if_pos h, dif_pos ⟨by simp, by simpa using h1, by simpa using h2⟩]
  simp only [Int.toNat_natCast]
  rw [if_pos hc]

theorem mo_len {s : List Df} {m : Tbs} (h : moS s m = true) : m.length = s.length := (bOf_t h).2.1

theorem mo_fb {s : List Df} {m : Tbs} (h : moS s m = true) : fbN s = -1 := (bOf_t h).1

theorem mo_rw {s : List Df} {m : Tbs} (h : moS s m = true) {k : Nat} (h1 : k < s.length) (h2 : k < m.length) : ∀ j (hj : j < m[k].length), RwI s[k] k m[k] j hj := (bOf_t ((bOf_t h).2.2 k h1 h2)).1

/-! How large it is -/

theorem cnt_set {α : Type} {c : α → Nat} {l : List α} {k : Nat} {x : α} (h : k < l.length) : cnt c (l.set k x) + c l[k] = cnt c l + c x := by
  induction l generalizing k with
  | nil => simp at h
  | cons y l ih =>
    cases k with
    | zero => simp only [List.set_cons_zero, cnt, List.getElem_cons_zero]; omega
    | succ k =>
      have := ih (k := k) (by simpa using h)
      simp only [List.set_cons_succ, cnt, List.getElem_cons_succ]; omega

theorem cnt_ap {α : Type} {c : α → Nat} : ∀ {a b : List α}, cnt c (a ++ b) = cnt c a + cnt c b
  | [], b => by simp [cnt]
  | x :: a, b => by simp only [List.cons_append, cnt, cnt_ap (a := a) (b := b)]; omega

abbrev zzR (t : List (List Vl)) : Nat := t.length + cnt zRow t

theorem zz_ap {a b : List (List Vl)} : zzR (a ++ b) = zzR a + zzR b := by
  simp only [zzR, cnt_ap, List.length_append]; omega

theorem zz_1 {r : List Vl} : zzR [r] = 1 + zRow r := by simp [zzR, cnt]

theorem zz_td {t : List (List Vl)} {j : Nat} (h : j < t.length) : zzR (t.take j ++ t.drop (j + 1)) ≤ zzR t := by
  have e : zzR t = zzR (t.take j ++ t.drop j) := by rw [List.take_append_drop]
  rw [e, zz_ap, zz_ap, List.drop_eq_getElem_cons h]
  have : zzR (t[j] :: t.drop (j + 1)) = zzR [t[j]] + zzR (t.drop (j + 1)) := zz_ap (a := [t[j]])
  omega

theorem sgS_z {l : List Prt} {row : List Vl} {x : List (List Vl) × Bool} {r : List Vl} : zzR (fnS row (sgS l row x r)) ≤ zzR (fnS row x) + zzR [r] := by
  obtain ⟨out, b⟩ := x
  have z1 : zzR [row, r] = zzR [row] + zzR [r] := zz_ap (a := [row])
  have z2 : zzR [r, row] = zzR [r] + zzR [row] := zz_ap (a := [r])
  unfold sgS
  simp only
  split <;> split <;> (rename_i h1 h2; cases b <;> simp_all [fnS, zz_ap] <;> omega)

theorem sg_z {l : List Prt} {row : List Vl} : ∀ {rs : List (List Vl)} {x : List (List Vl) × Bool}, zzR (fnS row (rs.foldl (sgS l row) x)) ≤ zzR (fnS row x) + zzR rs
  | [], x => by simp
  | r :: rs, x => by
    have h1 := sg_z (l := l) (row := row) (rs := rs) (x := sgS l row x r)
    have h2 := sgS_z (l := l) (row := row) (x := x) (r := r)
    have h3 : zzR (r :: rs) = zzR [r] + zzR rs := zz_ap (a := [r])
    rw [List.foldl_cons]; omega

theorem nrN_z {d : Df} {rows : List (List Vl)} {o : Opn} : zTab (nrN d rows o) ≤ zTab rows + zRow o.row + 1 := by
  show zzR (nrN d rows o) ≤ zzR rows + zRow o.row + 1
  by_cases h : o.kind = 4
  · unfold nrN
    rw [if_pos h]
    generalize (atN (ppN d) rows o.row).toNat = j
    by_cases hj : j < rows.length
    · have := zz_td hj; omega
    · rw [List.take_of_length_le (by omega), List.drop_eq_nil_of_le (by omega), List.append_nil]; omega
  · rw [nrN_n h]
    have h1 := sg_z (l := ppN d) (row := o.row) (rs := rows) (x := ([], false))
    have h2 : zzR (fnS o.row ([], false)) = 1 + zRow o.row := zz_1
    unfold seS; omega

theorem apN_z {s : List Df} {m : Tbs} {o : Opn} : zMdb (apN s m o).1 ≤ zMdb m + zRow o.row + 1 := by
  by_cases h : moS s m = true ∧ inB o.kind 1 4 = true
  · by_cases h2 : ApH s m o
    · obtain ⟨kd, t, row⟩ := o
      obtain ⟨ha, hb, hc⟩ := h2
      obtain ⟨k, rfl⟩ : ∃ k : Nat, t = k := ⟨t.toNat, by simp only at ha; omega⟩
      simp only [Int.toNat_natCast] at hb hc
      by_cases h3 : acT s[k] k m[k] ⟨kd, k, row⟩ = 0
      · rw [apN_y h hb hc h3]
        have h4 := cnt_set (c := zTab) (x := nrN s[k] m[k] ⟨kd, k, row⟩) hc
        have h5 := nrN_z (d := s[k]) (rows := m[k]) (o := ⟨kd, k, row⟩)
        simp only [zMdb, List.length_set] at *
        omega
      · rw [apN_e h hb hc h3]; simp only; omega
    · rw [apN_2 h h2]; simp only; omega
  · rw [apN_1 h]; simp only; omega

/-! Operations, one behind the other -/

noncomputable abbrev baM (s : List Df) (m : Tbs) (l : List Opn) (i : Nat) : Tbs := (l.take i).foldl (fun m o => (apN s m o).1) m

theorem baM_suc {s : List Df} {m : Tbs} {l : List Opn} {i : Nat} (h : i < l.length) : baM s m l (i + 1) = (apN s (baM s m l i) l[i]).1 := by
  unfold baM
  rw [take_one h, List.foldl_append]; rfl

theorem baM_z {s : List Df} {m : Tbs} {l : List Opn} : ∀ {i : Nat}, i ≤ l.length → zMdb (baM s m l i) ≤ zMdb m + cnt (fun o => zRow o.row) (l.take i) + i
  | 0, _ => by simp [baM, cnt]
  | i + 1, h => by
    have h1 := baM_z (s := s) (m := m) (i := i) (Nat.le_of_succ_le h)
    have h2 := apN_z (s := s) (m := baM s m l i) (o := l[i])
    have h3 := cnt_take (c := fun o : Opn => zRow o.row) (xs := l) (i := i) h
    rw [baM_suc h]
    omega

/-- The first operation that is refused. -/
noncomputable abbrev baC (s : List Df) (m : Tbs) (l : List Opn) : Int := fstI l.length fun i => ∃ h : i < l.length, (apN s (baM s m l i) l[i]).2 ≠ 0
end

section
open Go Go.RowKit Go.IntWalk

open Enc (sz cs)

attribute [local irreducible] IntKind.wrap

/-! ### What is drawn -/

structure Cur where
  b : List UInt8
  i : Nat
  h : Int

structure CurOk (c : Cur) : Prop where
  i : c.i ≤ c.b.length
  b : c.b.length ≤ 1048576

abbrev cuC (c : Cur) : List Cell := [slE false c.b, i6 c.i, i6 c.h]

abbrev aC (c : Cur) : Arg := .own true 0 0 (cuC c)

/-- The first number of a drawing. -/
def hN (b : List UInt8) : Nat → Nat
  | 0 => 758758 + b.length
  | i + 1 => (hN b i * 137 + (b.getD i 0).toNat + 11) % 1073741824

theorem hN_le {b : List UInt8} (hb : b.length ≤ 1048576) : ∀ {i : Nat}, hN b i ≤ 1073741824
  | 0 => by simp only [hN]; omega
  | i + 1 => by simp only [hN]; omega

theorem hN_suc {b : List UInt8} {i : Nat} (h : i < b.length) : hN b (i + 1) = (hN b i * 137 + b[i].toNat + 11) % 1073741824 := by
  simp only [hN]; rw [List.getD_eq_getElem?_getD, List.getElem?_eq_getElem h]; rfl

def byH (h : Int) : Int := IntKind.i64.wrap (IntKind.i64.wrap (h * 6364136223846793005) + 1442695040888963407)

def byX (h : Int) : Nat := (BitVec.ofInt 64 (IntKind.i64.wrap ((BitVec.ofInt 64 (h.fdiv (2 ^ min 33 64)) ^^^ BitVec.ofInt 64 (h.fdiv (2 ^ min 47 64))).toNat : Nat)) &&& BitVec.ofInt 64 255).toNat

theorem byX_le (h : Int) : byX h ≤ 255 := by
  unfold byX
  rw [BitVec.toNat_and, show (BitVec.ofInt 64 255).toNat = 255 from rfl]
  exact Nat.and_le_right

def byC (c : Cur) : Nat × Cur := if c.i < c.b.length then ((byX (byH c.h) + (c.b.getD c.i 0).toNat) % 256, ⟨c.b, c.i + 1, byH c.h⟩) else (byX (byH c.h), ⟨c.b, c.i, byH c.h⟩)

theorem byC_yes {c : Cur} (h : c.i < c.b.length) : byC c = ((byX (byH c.h) + c.b[c.i].toNat) % 256, ⟨c.b, c.i + 1, byH c.h⟩) := by
  unfold byC; rw [if_pos h, List.getD_eq_getElem?_getD, List.getElem?_eq_getElem h]; rfl

theorem byC_no {c : Cur} (h : ¬ c.i < c.b.length) : byC c = (byX (byH c.h), ⟨c.b, c.i, byH c.h⟩) := by
  unfold byC; rw [if_neg h]

theorem byC_le (c : Cur) : (byC c).1 ≤ 255 := by
  unfold byC
  split
  · simp only; omega
  · exact byX_le _

theorem byC_ok {c : Cur} (h : CurOk c) : CurOk (byC c).2 := by
  have := h.i
  unfold byC
  split
  · exact ⟨by simp only; omega, h.b⟩
  · exact ⟨h.i, h.b⟩

/-- A number below `n`. -/
def blC (c : Cur) (n : Nat) : Nat × Cur :=
  if n = 0 then (0, c) else if n ≤ 256 then ((byC c).1 % n, (byC c).2) else
  (((byC c).1 * 65536 + (byC (byC c).2).1 * 256 + (byC (byC (byC c).2).2).1) % n, (byC (byC (byC c).2).2).2)

theorem blC_0 {c : Cur} : blC c 0 = (0, c) := if_pos rfl

theorem blC_s {c : Cur} {n : Nat} (h : ¬ n = 0) (h2 : n ≤ 256) : blC c n = ((byC c).1 % n, (byC c).2) := by
  unfold blC; rw [if_neg h, if_pos h2]

theorem blC_g {c : Cur} {n : Nat} (h2 : ¬ n ≤ 256) : blC c n = (((byC c).1 * 65536 + (byC (byC c).2).1 * 256 + (byC (byC (byC c).2).2).1) % n, (byC (byC (byC c).2).2).2) := by
  unfold blC; rw [if_neg (by omega), if_neg h2]

theorem blC_lt {c : Cur} {n : Nat} (h : 0 < n) : (blC c n).1 < n := by
  by_cases h2 : n ≤ 256
  · rw [blC_s (by omega) h2]; exact Nat.mod_lt _ h
  · rw [blC_g h2]; exact Nat.mod_lt _ h

theorem blC_ok {c : Cur} {n : Nat} (h : CurOk c) : CurOk (blC c n).2 := by
  by_cases h0 : n = 0
  · subst h0; rw [blC_0]; exact h
  · by_cases h2 : n ≤ 256
    · rw [blC_s h0 h2]; exact byC_ok h
    · rw [blC_g h2]; exact byC_ok (byC_ok (byC_ok h))

/-- One of a list. -/
def inC (c : Cur) (l : List Int) : Int × Cur := (l.getD (blC c l.length).1 0, (blC c l.length).2)

theorem inC_at {c : Cur} {l : List Int} (h : 0 < l.length) : inC c l = (l[(blC c l.length).1]'(blC_lt h), (blC c l.length).2) := by
  unfold inC; rw [List.getD_eq_getElem?_getD, List.getElem?_eq_getElem (blC_lt h)]; rfl

theorem inC_ok {c : Cur} {l : List Int} (h : CurOk c) : CurOk (inC c l).2 := blC_ok h

def nwC (b : List UInt8) : Cur := ⟨b, 0, (hN b (min b.length 4000) : Nat)⟩

theorem nwC_ok {b : List UInt8} (h : b.length ≤ 1048576) : CurOk (nwC b) := ⟨Nat.zero_le _, h⟩

theorem and30 {n : Int} {m : Nat} (hn : n = (m : Int)) (h : m < 9223372036854775808) : IntKind.i64.wrap ((BitVec.ofInt IntKind.i64.bits n &&& BitVec.ofInt IntKind.i64.bits 1073741823).toNat : Int) = ((m % 1073741824 : Nat) : Int) := by
  subst hn; exact and64 30 (by decide) h

theorem and8 {n : Int} {m : Nat} (hn : n = (m : Int)) (h : m < 9223372036854775808) : IntKind.i64.wrap ((BitVec.ofInt IntKind.i64.bits n &&& BitVec.ofInt IntKind.i64.bits 255).toNat : Int) = ((m % 256 : Nat) : Int) := by
  subst hn; exact and64 8 (by decide) h

theorem andX {h : Int} : IntKind.i64.wrap ((BitVec.ofInt IntKind.i64.bits (IntKind.i64.wrap ((BitVec.ofInt 64 (h.fdiv (2 ^ min 33 64)) ^^^ BitVec.ofInt 64 (h.fdiv (2 ^ min 47 64))).toNat : Nat)) &&& BitVec.ofInt IntKind.i64.bits 255).toNat : Int) = ((byX h : Nat) : Int) := by
  have := byX_le h
  exact i64_in ((byX h : Nat) : Int) (by omega)

set_option maxRecDepth 100000 in
theorem tx105 {c : Cur} (hc : CurOk c := by first | assumption | omega | (simp; done) | (simp; omega)) : T 105 [aC c] [vI (byC c).1] [some (cuC (byC c).2)] := by
  refine w_call md [] Tryz.func105 rfl ?_
  have hi := hc.i
  have hb := hc.b
  have hx := byX_le (byH c.h)
  by_cases hlt : c.i < c.b.length
  · rw [byC_yes hlt]
    have hu := UInt8.toNat_lt c.b[c.i]
    repeat' ((conv => whnf); (first | refine And.intro (by decide) (Exists.intro _ (And.intro rfl ?_)) | refine Exists.intro _ (And.intro (andX (h := byH c.h)) ?_) | refine Exists.intro _ (And.intro (and8 (m := byX (byH c.h) + c.b[c.i].toNat) (by omega) (by omega)) ?_) | refine k0 ?_ | refine jA fun _ => ?_ | refine jB fun _ => ?_ | refine kC (fun _ => ?_) fun _ => ?_ | refine jst ?_ | exact ⟨rfl, rfl⟩ | exact jV | fail))
  · rw [byC_no hlt]
    repeat' ((conv => whnf); (first | refine And.intro (by decide) (Exists.intro _ (And.intro rfl ?_)) | refine Exists.intro _ (And.intro (andX (h := byH c.h)) ?_) | refine k0 ?_ | refine jA fun _ => ?_ | refine jB fun _ => ?_ | refine kC (fun _ => ?_) fun _ => ?_ | refine jst ?_ | exact ⟨rfl, rfl⟩ | exact jV | fail))

theorem cx105 {P : Program} {X : FuncId → List Arg → List (Bool × List Cell) → List (Option (List Cell)) → Prop} {a : List Arg} {Q : List (Bool × List Cell) → List (Option (List Cell)) → Prop} (h : ∃ b vals outs, a = b ∧ D P X (.call 105 b vals outs) ∧ Q vals outs) : CallS P X 105 a Q := ⟨h⟩

set_option maxRecDepth 100000 in
theorem tx72 {c : Cur} {n : Nat} (hc : CurOk c := by first | assumption | omega | (simp; done) | (simp; omega)) (hn : n ≤ 100000000 := by first | assumption | omega | (simp; done) | (simp; omega)) : T 72 [aC c, aI n] [vI (blC c n).1] [some (cuC (blC c n).2), none] := by
  refine w_call md [] Tryz.func72 rfl ?_
  have h1 := byC_ok hc
  have h2 := byC_ok h1
  have h3 := byC_ok h2
  have l1 := byC_le c
  have l2 := byC_le (byC c).2
  have l3 := byC_le (byC (byC c).2).2
  by_cases h0 : n = 0
  · subst h0
    rw [blC_0]
    repeat' ((conv => whnf); (first | refine k0 ?_ | refine jA fun _ => ?_ | refine jB fun _ => ?_ | refine kC (fun _ => ?_) fun _ => ?_ | (apply cx105; refine kl tx105 ?_) | refine jst ?_ | exact ⟨rfl, rfl⟩ | exact jV | fail))
  · by_cases hs : n ≤ 256
    · rw [blC_s h0 hs]
      repeat' ((conv => whnf); (first | (apply cx105; refine kl (tx105 (c := c)) ?_) | refine And.intro (by omega) (Exists.intro (((byC c).1 % n : Nat) : Int) (And.intro (Int.tmod_eq_emod_of_nonneg (by omega)) ?_)) | refine k0 ?_ | refine jA fun _ => ?_ | refine jB fun _ => ?_ | refine kC (fun _ => ?_) fun _ => ?_ | refine jst ?_ | exact ⟨rfl, rfl⟩ | exact jV | fail))
    · rw [blC_g hs]
      repeat' ((conv => whnf); (first | (apply cx105; refine kl (tx105 (c := c)) ?_) | (apply cx105; refine kl (tx105 (c := (byC c).2)) ?_) | (apply cx105; refine kl (tx105 (c := (byC (byC c).2).2)) ?_) | refine And.intro (by omega) (Exists.intro ((((byC c).1 * 65536 + (byC (byC c).2).1 * 256 + (byC (byC (byC c).2).2).1) % n : Nat) : Int) (And.intro (Int.tmod_eq_emod_of_nonneg (by omega)) ?_)) | refine k0 ?_ | refine jA fun _ => ?_ | refine jB fun _ => ?_ | refine kC (fun _ => ?_) fun _ => ?_ | refine jst ?_ | exact ⟨rfl, rfl⟩ | exact jV | fail))

theorem cx72 {P : Program} {X : FuncId → List Arg → List (Bool × List Cell) → List (Option (List Cell)) → Prop} {a : List Arg} {Q : List (Bool × List Cell) → List (Option (List Cell)) → Prop} (h : ∃ b vals outs, a = b ∧ D P X (.call 72 b vals outs) ∧ Q vals outs) : CallS P X 72 a Q := ⟨h⟩

set_option maxRecDepth 100000 in
theorem tx71 {c : Cur} {n : Nat} (hc : CurOk c := by first | assumption | omega | (simp; done) | (simp; omega)) (hn : n ≤ 100000000 := by first | assumption | omega | (simp; done) | (simp; omega)) : T 71 [aC c, aI n] [vB (decide ((blC c n).1 = 0))] [some (cuC (blC c n).2), none] := by
  refine w_call md [] Tryz.func71 rfl ?_
  repeat' ((conv => whnf); (first | (apply cx72; refine kl (tx72 (c := c) (n := n)) ?_) | refine k0 ?_ | refine jA fun _ => ?_ | refine jB fun _ => ?_ | refine kC (fun _ => ?_) fun _ => ?_ | refine jst ?_ | exact ⟨rfl, rfl⟩ | exact jV | fail))
  all_goals first | exact ⟨by rw [decide_eq_true (by omega)], rfl⟩ | exact ⟨by rw [decide_eq_false (by omega)], rfl⟩

theorem cx71 {P : Program} {X : FuncId → List Arg → List (Bool × List Cell) → List (Option (List Cell)) → Prop} {a : List Arg} {Q : List (Bool × List Cell) → List (Option (List Cell)) → Prop} (h : ∃ b vals outs, a = b ∧ D P X (.call 71 b vals outs) ∧ Q vals outs) : CallS P X 71 a Q := ⟨h⟩

set_option maxRecDepth 100000 in
theorem tx66 {c : Cur} {l : List Int} (hc : CurOk c := by first | assumption | omega | (simp; done) | (simp; omega)) (hl : 0 < l.length ∧ l.length ≤ 1000 := by first | assumption | omega | (simp; done) | (simp; omega)) : T 66 [aC c, aO l] [vI (inC c l).1] [some (cuC (inC c l).2), some (cs true l)] := by
  refine w_call md [] Tryz.func66 rfl ?_
  have hb := blC_lt (c := c) hl.1
  rw [inC_at hl.1]
  repeat' ((conv => whnf); (first | (apply cx72; refine kl (tx72 (c := c) (n := l.length)) ?_) | refine k0 ?_ | refine jA fun _ => ?_ | refine jB fun _ => ?_ | refine kC (fun _ => ?_) fun _ => ?_ | refine jst ?_ | exact ⟨rfl, rfl⟩ | exact jV | fail))

theorem cx66 {P : Program} {X : FuncId → List Arg → List (Bool × List Cell) → List (Option (List Cell)) → Prop} {a : List Arg} {Q : List (Bool × List Cell) → List (Option (List Cell)) → Prop} (h : ∃ b vals outs, a = b ∧ D P X (.call 66 b vals outs) ∧ Q vals outs) : CallS P X 66 a Q := ⟨h⟩

attribute [local irreducible] byC blC inC

set_option maxRecDepth 100000 in
theorem tx34 {b : List UInt8} (hb : b.length ≤ 1048576 := by first | assumption | omega | (simp; done) | (simp; omega)) : T 34 [aE b] [(false, [.op (cuC (nwC b))])] [none] := by
  refine w_call md [] Tryz.func34 rfl ?_
  repeat' ((conv => whnf); (first | refine k0 ?_ | refine jA fun _ => ?_ | refine jB fun _ => ?_ | refine kC (fun _ => ?_) fun _ => ?_ | refine jst ?_ | exact ⟨rfl, rfl⟩ | exact jV | fail))
  conv => whnf
  refine loopk (ι := Nat) (fun i => i ≤ min b.length 4000) (fun i => min b.length 4000 - i) (0) [0] (fun i => [(3, .v false [i6 (hN b i : Nat)]), (4, .v false [i6 i])]) [none] ?_
  refine ⟨by omega, ?_, fun i hi => ?_⟩
  · exact jw []
  · have hh := hN_le hb (i := i)
    repeat' ((conv => whnf); (first | refine k0 ?_ | refine jst ?_ | exact ⟨rfl, rfl⟩ | exact jV | fail))
    conv => whnf
    refine ⟨fun hlt => ?_, fun hge => ?_⟩
    · repeat' ((conv => whnf); (first | refine k0 ?_ | refine jst ?_ | exact ⟨rfl, rfl⟩ | exact jV | fail))
      conv => whnf
      refine ⟨fun h2 => ?_, fun h2 => ?_⟩
      · have hi2 : i < b.length := by omega
        have hs := hN_suc hi2
        have hu := UInt8.toNat_lt b[i]
        repeat' ((conv => whnf); (first | refine Exists.intro _ (And.intro (and30 (m := hN b i * 137 + b[i].toNat + 11) (by omega) (by omega)) ?_) | refine k0 ?_ | refine jA fun _ => ?_ | refine jB fun _ => ?_ | refine kC (fun _ => ?_) fun _ => ?_ | refine jst ?_ | exact ⟨rfl, rfl⟩ | exact jV | fail))
        refine ⟨⟨i + 1, by omega⟩, by simp only; omega, ?_⟩
        exact w_autoX [] (by (conv => whnf); exact And.intro (by kernel_rfl) (And.intro (by kernel_rfl) (by repeat' (first | (with_reducible exact rfl) | ((conv => whnf); first | exact trivial | exact tvi (by rw [hs]) | exact rfl | exact tvi (by first | omega | (dsimp only; omega) | (simp; done)) | exact tvr (by first | omega | (dsimp only; omega) | (simp; done) | (simp; omega)) | exact ⟨rfl, clo_i, by first | rfl | rw [List.take_length] | assumption⟩ | refine And.intro ?_ ?_)))))
      · obtain rfl : i = min b.length 4000 := by omega
        repeat' ((conv => whnf); (first | refine And.intro ⟨rfl, rfl, rfl⟩ ?_ | refine k0 ?_ | refine jA fun _ => ?_ | refine jB fun _ => ?_ | refine kC (fun _ => ?_) fun _ => ?_ | refine jst ?_ | exact ⟨rfl, rfl⟩ | exact jV | fail))
    · obtain rfl : i = min b.length 4000 := by omega
      repeat' ((conv => whnf); (first | refine And.intro ⟨rfl, rfl, rfl⟩ ?_ | refine k0 ?_ | refine jA fun _ => ?_ | refine jB fun _ => ?_ | refine kC (fun _ => ?_) fun _ => ?_ | refine jst ?_ | exact ⟨rfl, rfl⟩ | exact jV | fail))

theorem cx34 {P : Program} {X : FuncId → List Arg → List (Bool × List Cell) → List (Option (List Cell)) → Prop} {a : List Arg} {Q : List (Bool × List Cell) → List (Option (List Cell)) → Prop} (h : ∃ b vals outs, a = b ∧ D P X (.call 34 b vals outs) ∧ Q vals outs) : CallS P X 34 a Q := ⟨h⟩
end

section
open Go Go.RowKit Go.IntWalk

open Enc (sz cs)

attribute [local irreducible] IntKind.wrap

/-! ### Tables that are drawn, as they are -/

abbrev onC (c : Cur) (n : Nat) : Bool × Cur := (decide ((blC c n).1 = 0), (blC c n).2)

def sIC (c : Cur) (l : List ByteArray) : ByteArray × Cur := (l.getD (blC c l.length).1 ⟨#[]⟩, (blC c l.length).2)

theorem sIC_at {c : Cur} {l : List ByteArray} (h : 0 < l.length) : sIC c l = (l[(blC c l.length).1]'(blC_lt h), (blC c l.length).2) := by
  unfold sIC; rw [List.getD_eq_getElem?_getD, List.getElem?_eq_getElem (blC_lt h)]; rfl

theorem sIC_ok {c : Cur} {l : List ByteArray} (h : CurOk c) : CurOk (sIC c l).2 := blC_ok h

theorem sIC_mem {c : Cur} {l : List ByteArray} (h : 0 < l.length) : (sIC c l).1 ∈ l := by rw [sIC_at h]; exact List.getElem_mem _

/-- One or two parts. -/
def p2C (c : Cur) (n : Nat) : List By × Cur :=
  if 1 < n then
    if (onC (onC (blC c n).2 2).2 3).1 = true then
      ([⟨(blC c n).1, (onC (blC c n).2 2).1⟩, ⟨(((blC c n).1 + 1) % n : Nat), (onC (onC (onC (blC c n).2 2).2 3).2 2).1⟩], (onC (onC (onC (blC c n).2 2).2 3).2 2).2)
    else ([⟨(blC c n).1, (onC (blC c n).2 2).1⟩], (onC (onC (blC c n).2 2).2 3).2)
  else ([⟨(blC c n).1, (onC (blC c n).2 2).1⟩], (onC (blC c n).2 2).2)

theorem p2C_ok {c : Cur} {n : Nat} (h : CurOk c) : CurOk (p2C c n).2 := by
  unfold p2C
  split
  · split
    · exact blC_ok (blC_ok (blC_ok (blC_ok h)))
    · exact blC_ok (blC_ok (blC_ok h))
  · exact blC_ok (blC_ok h)

theorem p2C_len {c : Cur} {n : Nat} : (p2C c n).1.length ≤ 2 := by
  unfold p2C
  split
  · split <;> simp
  · simp

def nmC : Nat → ByteArray
  | 0 => ⟨#[97]⟩
  | 1 => ⟨#[98]⟩
  | _ => ⟨#[99]⟩

/-- A column. -/
def clS (c : Cur) (i : Nat) : Cl × Cur := (⟨nmC i, ((1 + (blC c 4).1 : Nat) : Int), (onC (blC c 4).2 2).1⟩, (onC (blC c 4).2 2).2)

/-- Columns, from the i-th one on. -/
def csR : Nat → Nat → List Cl → Cur → List Cl × Cur
  | 0, _, l, c => (l, c)
  | f + 1, i, l, c => if i < 1 + (blC c 3).1 ∧ i < 3 then csR f (i + 1) (l ++ [(clS (blC c 3).2 i).1]) (clS (blC c 3).2 i).2 else (l, (blC c 3).2)

theorem csR_ok : ∀ {f i : Nat} {l : List Cl} {c : Cur}, CurOk c → CurOk (csR f i l c).2
  | 0, _, _, _, h => h
  | f + 1, i, l, c, h => by
    unfold csR
    split
    · exact csR_ok (blC_ok (blC_ok (blC_ok h)))
    · exact blC_ok h

theorem csR_len : ∀ {f i : Nat} {l : List Cl} {c : Cur}, l.length ≤ (csR f i l c).1.length ∧ (csR f i l c).1.length ≤ l.length + f
  | 0, _, _, _ => ⟨Nat.le_refl _, Nat.le_refl _⟩
  | f + 1, i, l, c => by
    unfold csR
    split
    · have := csR_len (f := f) (i := i + 1) (l := l ++ [(clS (blC c 3).2 i).1]) (c := (clS (blC c 3).2 i).2)
      simp only [List.length_append, List.length_cons, List.length_nil] at this
      omega
    · exact ⟨Nat.le_refl _, Nat.le_add_right _ _⟩

/-- The parts of the key. -/
def pmC (c : Cur) (b : Bool) : List By × Cur :=
  if b = false then
    if (onC (onC c 3).2 2).1 = true then ([⟨0, (onC c 3).1⟩, ⟨1, (onC (onC (onC c 3).2 2).2 2).1⟩], (onC (onC (onC c 3).2 2).2 2).2)
    else ([⟨0, (onC c 3).1⟩], (onC (onC c 3).2 2).2)
  else ([⟨0, (onC c 3).1⟩], (onC c 3).2)

theorem pmC_ok {c : Cur} {b : Bool} (h : CurOk c) : CurOk (pmC c b).2 := by
  unfold pmC
  split
  · split
    · exact blC_ok (blC_ok (blC_ok h))
    · exact blC_ok (blC_ok h)
  · exact blC_ok h

theorem pmC_len {c : Cur} {b : Bool} : (pmC c b).1.length ≤ 2 := by
  unfold pmC
  split
  · split <;> simp
  · simp

/-- An index. -/
def ixS (c : Cur) (i n : Nat) : Ix × Cur :=
  (⟨(sIC c [⟨#[117]⟩, ⟨#[118]⟩]).1 ++ nmC i, (onC (sIC c [⟨#[117]⟩, ⟨#[118]⟩]).2 2).1, (p2C (onC (sIC c [⟨#[117]⟩, ⟨#[118]⟩]).2 2).2 n).1⟩, (p2C (onC (sIC c [⟨#[117]⟩, ⟨#[118]⟩]).2 2).2 n).2)

def ixR (n : Nat) : Nat → List Ix → Cur → List Ix × Cur
  | 0, l, c => (l, c)
  | i + 1, l, c => ixR n i (l ++ [(ixS c (i + 1) n).1]) (ixS c (i + 1) n).2

theorem ixR_ok {n : Nat} : ∀ {i : Nat} {l : List Ix} {c : Cur}, CurOk c → CurOk (ixR n i l c).2
  | 0, _, _, h => h
  | i + 1, _, _, h => ixR_ok (i := i) (p2C_ok (blC_ok (sIC_ok h)))

theorem ixR_len {n : Nat} : ∀ {i : Nat} {l : List Ix} {c : Cur}, (ixR n i l c).1.length = l.length + i
  | 0, _, _ => rfl
  | i + 1, l, c => by
    rw [show ixR n (i + 1) l c = ixR n i (l ++ [(ixS c (i + 1) n).1]) (ixS c (i + 1) n).2 from rfl, ixR_len (i := i)]
    simp; omega

/-- A table's columns, then its key, then its indexes. -/
def dcC (c : Cur) : List Cl × Cur := csR 4 0 [⟨⟨#[105, 100]⟩, (inC c [1, 1, 3, 2]).1, false⟩] (inC c [1, 1, 3, 2]).2

def dpC (c : Cur) : List By × Cur := pmC (dcC c).2 ((dcC c).1.getD 1 ⟨⟨#[]⟩, 0, false⟩).null

def dxC (c : Cur) : List Ix × Cur := ixR (dcC c).1.length (blC (dpC c).2 3).1 [] (blC (dpC c).2 3).2

def dfD (c : Cur) (name : ByteArray) : Df × Cur := (⟨name, (dcC c).1, (dpC c).1, (dxC c).1⟩, (dxC c).2)

theorem dcC_ok {c : Cur} (h : CurOk c) : CurOk (dcC c).2 := csR_ok (inC_ok h)

theorem dpC_ok {c : Cur} (h : CurOk c) : CurOk (dpC c).2 := pmC_ok (dcC_ok h)

theorem dxC_ok {c : Cur} (h : CurOk c) : CurOk (dxC c).2 := ixR_ok (blC_ok (dpC_ok h))

theorem dfD_ok {c : Cur} {name : ByteArray} (h : CurOk c) : CurOk (dfD c name).2 := dxC_ok h

theorem csR_1 {f : Nat} {l : List Cl} {c : Cur} : csR (f + 1) 0 l c = csR f 1 (l ++ [(clS (blC c 3).2 0).1]) (clS (blC c 3).2 0).2 := by
  rw [csR]
  exact if_pos ⟨by omega, by omega⟩

attribute [local irreducible] csR blC inC sIC

theorem dcC_len {c : Cur} : 2 ≤ (dcC c).1.length ∧ (dcC c).1.length ≤ 5 := by
  have e : dcC c = csR 3 1 ([⟨⟨#[105, 100]⟩, (inC c [1, 1, 3, 2]).1, false⟩] ++ [(clS (blC (inC c [1, 1, 3, 2]).2 3).2 0).1]) (clS (blC (inC c [1, 1, 3, 2]).2 3).2 0).2 := by
    unfold dcC
    exact csR_1 (f := 3)
  rw [e]
  have h := csR_len (f := 3) (i := 1) (l := [⟨⟨#[105, 100]⟩, (inC c [1, 1, 3, 2]).1, false⟩] ++ [(clS (blC (inC c [1, 1, 3, 2]).2 3).2 0).1]) (c := (clS (blC (inC c [1, 1, 3, 2]).2 3).2 0).2)
  simp only [List.length_append, List.length_cons, List.length_nil] at h
  omega

theorem dpC_len {c : Cur} : (dpC c).1.length ≤ 2 := pmC_len

theorem dxC_len {c : Cur} : (dxC c).1.length ≤ 2 := by
  unfold dxC
  rw [ixR_len]
  have := blC_lt (c := (dpC c).2) (n := 3) (by decide)
  simp; omega

/-- One or two tables. -/
def ldC (c : Cur) : List Df × Cur :=
  if (onC (dfD c ⟨#[116]⟩).2 3).1 = true then ([(dfD c ⟨#[116]⟩).1, (dfD (onC (dfD c ⟨#[116]⟩).2 3).2 ⟨#[117]⟩).1], (dfD (onC (dfD c ⟨#[116]⟩).2 3).2 ⟨#[117]⟩).2)
  else ([(dfD c ⟨#[116]⟩).1], (onC (dfD c ⟨#[116]⟩).2 3).2)

theorem ldC_ok {c : Cur} (h : CurOk c) : CurOk (ldC c).2 := by
  unfold ldC
  split
  · exact dfD_ok (name := ⟨#[117]⟩) (blC_ok (dfD_ok (name := ⟨#[116]⟩) h))
  · exact blC_ok (dfD_ok (name := ⟨#[116]⟩) h)

/-- A value of a column that comes again. -/
def shB (c : Cur) (t : Int) : Vl × Cur :=
  if t = 3 then (⟨t, 0, (sIC c [⟨#[]⟩, ⟨#[97]⟩, ⟨#[98]⟩, ⟨#[97, 98]⟩, ⟨#[0]⟩]).1⟩, (sIC c [⟨#[]⟩, ⟨#[97]⟩, ⟨#[98]⟩, ⟨#[97, 98]⟩, ⟨#[0]⟩]).2)
  else if t = 4 then (⟨t, (blC c 2).1, ⟨#[]⟩⟩, (blC c 2).2)
  else (⟨t, (inC c [0, 1, 2, 3, 4, 5, -1]).1, ⟨#[]⟩⟩, (inC c [0, 1, 2, 3, 4, 5, -1]).2)

def shC (c : Cur) (x : Cl) : Vl × Cur :=
  if x.null = true then (if (onC c 4).1 = true then (⟨0, 0, ⟨#[]⟩⟩, (onC c 4).2) else shB (onC c 4).2 x.type) else shB c x.type

theorem shB_ok {c : Cur} {t : Int} (h : CurOk c) : CurOk (shB c t).2 := by
  unfold shB
  split
  · exact sIC_ok h
  · split
    · exact blC_ok h
    · exact inC_ok h

theorem shC_ok {c : Cur} {x : Cl} (h : CurOk c) : CurOk (shC c x).2 := by
  unfold shC
  split
  · split
    · exact blC_ok h
    · exact shB_ok (blC_ok h)
  · exact shB_ok h

theorem shB_s {c : Cur} {t : Int} : (shB c t).1.s.size ≤ 2 := by
  unfold shB
  split
  · have h := sIC_mem (c := c) (l := [⟨#[]⟩, ⟨#[97]⟩, ⟨#[98]⟩, ⟨#[97, 98]⟩, ⟨#[0]⟩]) (by simp)
    simp only [List.mem_cons, List.not_mem_nil, or_false] at h
    rcases h with h | h | h | h | h <;> (simp only; rw [h]; decide)
  · split <;> exact Nat.zero_le _

theorem shC_s {c : Cur} {x : Cl} : (shC c x).1.s.size ≤ 2 := by
  unfold shC
  split
  · split
    · exact Nat.zero_le _
    · exact shB_s
  · exact shB_s

/-- A row: the values of the first columns. -/
def rwC (c : Cur) (l : List Cl) : Nat → List Vl × Cur
  | 0 => ([], c)
  | i + 1 => ((rwC c l i).1 ++ [(shC (rwC c l i).2 (l.getD i ⟨⟨#[]⟩, 0, false⟩)).1], (shC (rwC c l i).2 (l.getD i ⟨⟨#[]⟩, 0, false⟩)).2)

theorem rwC_ok {c : Cur} {l : List Cl} (h : CurOk c) : ∀ {i : Nat}, CurOk (rwC c l i).2
  | 0 => h
  | _ + 1 => shC_ok (rwC_ok h)

theorem rwC_len {c : Cur} {l : List Cl} : ∀ {i : Nat}, (rwC c l i).1.length = i
  | 0 => rfl
  | i + 1 => by
    show ((rwC c l i).1 ++ [_]).length = _
    rw [List.length_append, rwC_len]; rfl

def szC (b : List UInt8) (most : Nat) : Nat := min (3 + b.length / 12) most

theorem szC_b {b : List UInt8} {most : Nat} (h : 0 < most) : 0 < szC b most ∧ szC b most ≤ most := by unfold szC; omega
end

end Go.Proofs.YtddikflnjloagaaGreatDoor
