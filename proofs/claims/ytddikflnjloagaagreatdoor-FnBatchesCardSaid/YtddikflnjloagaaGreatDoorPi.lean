/- What the law comes to: functions of the program, each with what it gives back, and the plain facts behind them. -/
import Derived.Test.YtddikflnjloagaaGreatDoorChecked
import Derived.IntWalk
import Derived.Test.YtddikflnjloagaaGreatDoorPh
namespace Go.Proofs.YtddikflnjloagaaGreatDoor

section
open Go Go.RowKit Go.IntWalk

open Enc (sz cs)

attribute [local irreducible] IntKind.wrap

/-! ### Keys and rows as bytes -/

attribute [local irreducible] prtB vrB bOf ftV vlOk

noncomputable def kyN (l : List Prt) (r : List Vl) : Nat → List UInt8
  | 0 => []
  | i + 1 => kyN l r i ++ if h : i < l.length ∧ i < r.length then prtB l[i] r[i] else []

theorem kyN_s {l : List Prt} {r : List Vl} {i : Nat} (h1 : i < l.length) (h2 : i < r.length) : kyN l r (i + 1) = kyN l r i ++ prtB l[i] r[i] := by rw [kyN, dif_pos ⟨h1, h2⟩]

theorem FaOk.val {l : List Prt} {r : List Vl} (h : FaOk l r) {i : Nat} (hi : i < r.length) : r[i].s.size ≤ 30 ∧ (r[i].k = 0 ∨ r[i].k = 1 ∨ r[i].k = 2 ∨ r[i].k = 3 ∨ r[i].k = 4 ∧ 0 ≤ r[i].n ∧ r[i].n ≤ 1) :=
  vlOk_e (ftV_e (h.fit i hi (by have := h.len; omega))).1

theorem kyN_len {l : List Prt} {r : List Vl} (h : FaOk l r) : ∀ i, i ≤ r.length → (kyN l r i).length ≤ 69 * i
  | 0, _ => Nat.le_refl _
  | i + 1, hi => by
    have h1 := kyN_len h i (by omega)
    have h2 := h.val (i := i) (by omega)
    have h3 : i < l.length := by have := h.len; omega
    rw [kyN_s h3 (by omega), List.length_append]
    have := prtB_len (p := l[i]) (v := r[i]) (by omega)
    omega

noncomputable def kyB (l : List Prt) (r : List Vl) : List UInt8 := match plOk l && faOk l r with
  | true => kyN l r r.length
  | false => []

theorem kyB_0 {l : List Prt} {r : List Vl} (h : plOk l = false ∨ faOk l r = false) : kyB l r = [] := by
  unfold kyB
  rcases h with h | h
  · rw [h]; rfl
  · rw [h, Bool.and_false]

theorem kyB_1 {l : List Prt} {r : List Vl} (h : plOk l = true) (h2 : faOk l r = true) : kyB l r = kyN l r r.length := by unfold kyB; rw [h, h2]; rfl

set_option maxHeartbeats 2000000 in
set_option maxRecDepth 100000 in
theorem tx117 {l : List Prt} {r : List Vl} (hl : l.length ≤ 2000000 := by first | assumption | omega | (simp; done) | (simp; omega)) (hr : r.length ≤ 2000000 ∧ ∀ i (h : i < r.length), r[i].s.size ≤ 2000000 := by first | assumption | omega | (simp; done) | (simp; omega)) : T 117 [aE l, aE r] [vE (kyB l r)] [none, none] := by
  refine w_call md [[1]] Tryz.func117 rfl ?_
  have hP : T 113 [aE l] [vB (plOk l)] [none] := tx113
  have hF : T 114 [aE l, aE r] [vB (faOk l r)] [none, none] := tx114
  obtain ⟨hr1, hr2⟩ := hr
  cases h1 : plOk l
  · rw [h1] at hP
    rw [kyB_0 (.inl h1)]
    repeat' ((conv => whnf); (first | (apply cx113; refine kl (hP) ?_) | refine k0 ?_ | refine jA fun _ => ?_ | refine jB fun _ => ?_ | refine kC (fun _ => ?_) fun _ => ?_ | (apply cx113; refine kl tx113 ?_) | (apply cx114; refine kl tx114 ?_) | (apply cx139; refine kl tx139 ?_) | refine jst ?_ | exact ⟨rfl, rfl⟩ | exact jV | fail))
  cases h2 : faOk l r
  · rw [h1] at hP
    rw [h2] at hF
    rw [kyB_0 (.inr h2)]
    repeat' ((conv => whnf); (first | (apply cx113; refine kl (hP) ?_) | (apply cx114; refine kl (hF) ?_) | refine k0 ?_ | refine jA fun _ => ?_ | refine jB fun _ => ?_ | refine kC (fun _ => ?_) fun _ => ?_ | (apply cx113; refine kl tx113 ?_) | (apply cx114; refine kl tx114 ?_) | (apply cx139; refine kl tx139 ?_) | refine jst ?_ | exact ⟨rfl, rfl⟩ | exact jV | fail))
  rw [kyB_1 h1 h2]
  rw [h1] at hP
  rw [h2] at hF
  have hfa := bOf_t h2
  have hpl := bOf_t h1
  have hll := hpl.len
  have hle := hfa.len
  have hk := kyN_len hfa
  clear h1 h2
  repeat' ((conv => whnf); (first | (apply cx113; refine kl (hP) ?_) | (apply cx114; refine kl (hF) ?_) | refine k0 ?_ | refine jA fun _ => ?_ | refine jB fun _ => ?_ | refine kC (fun _ => ?_) fun _ => ?_ | (apply cx113; refine kl tx113 ?_) | (apply cx114; refine kl tx114 ?_) | (apply cx139; refine kl tx139 ?_) | refine jst ?_ | exact ⟨rfl, rfl⟩ | exact jV | fail))
  conv => whnf
  refine loopk (ι := Nat × List UInt8) (fun i => i.1 ≤ r.length ∧ i.2 = kyN l r i.1) (fun i => r.length - i.1) ((0, [])) [0, 17, 18] (fun i => [(5, rE 2 i.2), (19, .v false [i6 i.1])]) [none, none, some fun i => nE i.2] ?_
  refine ⟨⟨Nat.zero_le _, rfl⟩, ?_, fun ⟨i, o⟩ hi => ?_⟩
  · exact (w_virt 5 1 rfl rfl).trans (jw [])
  · dsimp only at hi ⊢
    have hn : o.length ≤ 69 * i := by rw [hi.2]; exact hk i hi.1
    repeat' ((conv => whnf); (first | refine k0 ?_ | (apply cx113; refine kl tx113 ?_) | (apply cx114; refine kl tx114 ?_) | (apply cx139; refine kl tx139 ?_) | refine jst ?_ | exact ⟨rfl, rfl⟩ | exact jV | fail))
    conv => whnf
    refine ⟨fun hlt => ?_, fun hge => ?_⟩
    · dsimp only at hlt
      have hi2 : i < r.length := by omega
      have hi3 : i < l.length := by omega
      have hv := hfa.val hi2
      repeat' ((conv => whnf); (first | (apply cx139; refine kl (tx139 (bs := o) (p := l[i]) (v := r[i])) ?_) | refine k0 ?_ | refine jA fun _ => ?_ | refine jB fun _ => ?_ | refine kC (fun _ => ?_) fun _ => ?_ | (apply cx113; refine kl tx113 ?_) | (apply cx114; refine kl tx114 ?_) | (apply cx139; refine kl tx139 ?_) | refine jst ?_ | exact ⟨rfl, rfl⟩ | exact jV | fail))
      refine ⟨⟨(i + 1, o ++ prtB l[i] r[i]), by simp only; omega, by simp only; rw [kyN_s hi3 hi2, hi.2]⟩, by simp only; omega, ?_⟩
      dsimp only
      exact jw []
    · dsimp only at hge
      obtain rfl : i = r.length := by omega
      repeat' ((conv => whnf); (first | refine k0 ?_ | refine jA fun _ => ?_ | refine jB fun _ => ?_ | refine kC (fun _ => ?_) fun _ => ?_ | (apply cx113; refine kl tx113 ?_) | (apply cx114; refine kl tx114 ?_) | (apply cx139; refine kl tx139 ?_) | refine jst ?_ | exact ⟨rfl, rfl⟩ | exact jV | fail))
      all_goals exact ⟨by rw [← hi.2], rfl⟩

theorem cx117 {P : Program} {X : FuncId → List Arg → List (Bool × List Cell) → List (Option (List Cell)) → Prop} {a : List Arg} {Q : List (Bool × List Cell) → List (Option (List Cell)) → Prop} (h : ∃ b vals outs, a = b ∧ D P X (.call 117 b vals outs) ∧ Q vals outs) : CallS P X 117 a Q := ⟨h⟩

set_option maxHeartbeats 2000000 in
set_option maxRecDepth 100000 in
theorem tx144 {l : List Prt} {r : List Vl} (hl : l.length ≤ 2000000 := by first | assumption | omega | (simp; done) | (simp; omega)) (hr : r.length ≤ 2000000 ∧ ∀ i (h : i < r.length), r[i].s.size ≤ 2000000 := by first | assumption | omega | (simp; done) | (simp; omega)) : T 144 [aE l, aE r] [vE (kyB l r)] [none, none] := by
  refine w_call md [] Tryz.func144 rfl ?_
  have hP : T 122 [aE l] [vB (plOk l)] [none] := tx122
  have hF : T 123 [aE l, aE r] [vB (faOk l r)] [none, none] := tx123
  obtain ⟨hr1, hr2⟩ := hr
  cases h1 : plOk l
  · rw [h1] at hP
    rw [kyB_0 (.inl h1)]
    repeat' ((conv => whnf); (first | (apply cx122; refine kl (hP) ?_) | refine k0 ?_ | refine jA fun _ => ?_ | refine jB fun _ => ?_ | refine kC (fun _ => ?_) fun _ => ?_ | (apply cx122; refine kl tx122 ?_) | (apply cx123; refine kl tx123 ?_) | (apply cx162; refine kl tx162 ?_) | refine jst ?_ | exact ⟨rfl, rfl⟩ | exact jV | fail))
  cases h2 : faOk l r
  · rw [h1] at hP
    rw [h2] at hF
    rw [kyB_0 (.inr h2)]
    repeat' ((conv => whnf); (first | (apply cx122; refine kl (hP) ?_) | (apply cx123; refine kl (hF) ?_) | refine k0 ?_ | refine jA fun _ => ?_ | refine jB fun _ => ?_ | refine kC (fun _ => ?_) fun _ => ?_ | (apply cx122; refine kl tx122 ?_) | (apply cx123; refine kl tx123 ?_) | (apply cx162; refine kl tx162 ?_) | refine jst ?_ | exact ⟨rfl, rfl⟩ | exact jV | fail))
  rw [kyB_1 h1 h2]
  rw [h1] at hP
  rw [h2] at hF
  have hfa := bOf_t h2
  have hpl := bOf_t h1
  have hll := hpl.len
  have hle := hfa.len
  have hk := kyN_len hfa
  clear h1 h2
  repeat' ((conv => whnf); (first | (apply cx122; refine kl (hP) ?_) | (apply cx123; refine kl (hF) ?_) | refine k0 ?_ | refine jA fun _ => ?_ | refine jB fun _ => ?_ | refine kC (fun _ => ?_) fun _ => ?_ | (apply cx122; refine kl tx122 ?_) | (apply cx123; refine kl tx123 ?_) | (apply cx162; refine kl tx162 ?_) | refine jst ?_ | exact ⟨rfl, rfl⟩ | exact jV | fail))
  conv => whnf
  refine loopk (ι := Nat × List UInt8) (fun i => i.1 ≤ r.length ∧ i.2 = kyN l r i.1) (fun i => r.length - i.1) ((0, [])) [0, 1] (fun i => [(5, rE 2 i.2), (6, .v false [i6 i.1])]) [none, none, some fun i => nE i.2] ?_
  refine ⟨⟨Nat.zero_le _, rfl⟩, ?_, fun ⟨i, o⟩ hi => ?_⟩
  · exact jw []
  · dsimp only at hi ⊢
    have hn : o.length ≤ 69 * i := by rw [hi.2]; exact hk i hi.1
    repeat' ((conv => whnf); (first | refine k0 ?_ | (apply cx122; refine kl tx122 ?_) | (apply cx123; refine kl tx123 ?_) | (apply cx162; refine kl tx162 ?_) | refine jst ?_ | exact ⟨rfl, rfl⟩ | exact jV | fail))
    conv => whnf
    refine ⟨fun hlt => ?_, fun hge => ?_⟩
    · dsimp only at hlt
      have hi2 : i < r.length := by omega
      have hi3 : i < l.length := by omega
      have hv := hfa.val hi2
      repeat' ((conv => whnf); (first | (apply cx162; refine kl (tx162 (bs := o) (p := l[i]) (v := r[i])) ?_) | refine k0 ?_ | refine jA fun _ => ?_ | refine jB fun _ => ?_ | refine kC (fun _ => ?_) fun _ => ?_ | (apply cx122; refine kl tx122 ?_) | (apply cx123; refine kl tx123 ?_) | (apply cx162; refine kl tx162 ?_) | refine jst ?_ | exact ⟨rfl, rfl⟩ | exact jV | fail))
      refine ⟨⟨(i + 1, o ++ prtB l[i] r[i]), by simp only; omega, by simp only; rw [kyN_s hi3 hi2, hi.2]⟩, by simp only; omega, ?_⟩
      dsimp only
      exact jw []
    · dsimp only at hge
      obtain rfl : i = r.length := by omega
      repeat' ((conv => whnf); (first | refine k0 ?_ | refine jA fun _ => ?_ | refine jB fun _ => ?_ | refine kC (fun _ => ?_) fun _ => ?_ | (apply cx122; refine kl tx122 ?_) | (apply cx123; refine kl tx123 ?_) | (apply cx162; refine kl tx162 ?_) | refine jst ?_ | exact ⟨rfl, rfl⟩ | exact jV | fail))
      all_goals exact ⟨by rw [← hi.2], rfl⟩

theorem cx144 {P : Program} {X : FuncId → List Arg → List (Bool × List Cell) → List (Option (List Cell)) → Prop} {a : List Arg} {Q : List (Bool × List Cell) → List (Option (List Cell)) → Prop} (h : ∃ b vals outs, a = b ∧ D P X (.call 144 b vals outs) ∧ Q vals outs) : CallS P X 144 a Q := ⟨h⟩

def rwV (v : Vl) : List UInt8 :=
  uenc (clN v.k) ++ if v.k = 1 ∨ v.k = 2 then vrB v.n else if v.k = 3 then uenc (clN (bl v.s).length) ++ bl v.s else if v.k = 4 then [UInt8.ofNat v.n.toNat] else []

theorem rwV_0 {v : Vl} (h : v.k = 0) : rwV v = uenc (clN v.k) := by unfold rwV; rw [if_neg (by omega), if_neg (by omega), if_neg (by omega), List.append_nil]

theorem rwV_1 {v : Vl} (h : v.k = 1 ∨ v.k = 2) : rwV v = uenc (clN v.k) ++ vrB v.n := by unfold rwV; rw [if_pos h]

theorem rwV_3 {v : Vl} (h : v.k = 3) : rwV v = uenc (clN v.k) ++ (uenc (clN (bl v.s).length) ++ bl v.s) := by unfold rwV; rw [if_neg (by omega), if_pos h]

theorem rwV_4 {v : Vl} {m : Nat} (h : v.k = 4) (hm : v.n = m) : rwV v = uenc (clN v.k) ++ [UInt8.ofNat m] := by unfold rwV; rw [if_neg (by omega), if_neg (by omega), if_pos h, hm]; rfl

theorem rwV_len {v : Vl} (h : v.s.size ≤ 2000000) : (rwV v).length ≤ v.s.size + 12 := by
  have h1 := uenc_len (clN_le v.k)
  have h2 := vrB_len v.n
  have h3 := uenc_len (clN_le (bl v.s).length)
  have h4 := bl_len v.s
  unfold rwV
  rw [List.length_append]
  split
  · omega
  split
  · rw [List.length_append]; omega
  split
  · simp; omega
  · simp; omega

def rwN (r : List Vl) : Nat → List UInt8
  | 0 => uenc (clN r.length)
  | i + 1 => rwN r i ++ if h : i < r.length then rwV r[i] else []

theorem rwN_s {r : List Vl} {i : Nat} (h : i < r.length) : rwN r (i + 1) = rwN r i ++ rwV r[i] := by rw [rwN, dif_pos h]

theorem rwN_len {r : List Vl} (h : ∀ i (h : i < r.length), r[i].s.size ≤ 30) : ∀ i, i ≤ r.length → (rwN r i).length ≤ 42 * i + 3
  | 0, _ => uenc_len (clN_le r.length)
  | i + 1, hi => by
    have h1 := rwN_len h i (by omega)
    have h2 := h i (by omega)
    rw [rwN_s (by omega), List.length_append]
    have := rwV_len (v := r[i]) (by omega)
    omega

noncomputable def enB (l : List Prt) (r : List Vl) : List UInt8 := match roOk l r with
  | true => ptS (rwN r r.length)
  | false => []

theorem enB_0 {l : List Prt} {r : List Vl} (h : roOk l r = false) : enB l r = [] := by unfold enB; rw [h]

theorem enB_1 {l : List Prt} {r : List Vl} (h : roOk l r = true) : enB l r = ptS (rwN r r.length) := by unfold enB; rw [h]

attribute [local irreducible] rwV

set_option maxHeartbeats 2000000 in
set_option maxRecDepth 100000 in
theorem tx49 {l : List Prt} {r : List Vl} (hl : l.length ≤ 2000000 := by first | assumption | omega | (simp; done) | (simp; omega)) (hr : r.length ≤ 2000000 ∧ ∀ i (h : i < r.length), r[i].s.size ≤ 2000000 := by first | assumption | omega | (simp; done) | (simp; omega)) : T 49 [aE l, aE r] [vE (enB l r)] [none, none] := by
  refine w_call md [[1]] Tryz.func49 rfl ?_
  have hR : T 85 [aE l, aE r] [vB (roOk l r)] [none, none] := tx85
  obtain ⟨hr1, hr2⟩ := hr
  cases h1 : roOk l r
  · rw [h1] at hR
    rw [enB_0 h1]
    repeat' ((conv => whnf); (first | (apply cx85; refine kl (hR) ?_) | refine k0 ?_ | refine jA fun _ => ?_ | refine jB fun _ => ?_ | refine kC (fun _ => ?_) fun _ => ?_ | (apply cx85; refine kl tx85 ?_) | (apply cx87; refine kl tx87 ?_) | (apply cx88; refine kl tx88 ?_) | (apply cx89; refine kl tx89 ?_) | (apply cx90; refine kl tx90 ?_) | refine jst ?_ | exact ⟨rfl, rfl⟩ | exact jV | fail))
  rw [enB_1 h1]
  rw [h1] at hR
  obtain ⟨q1, q2, q3⟩ := bOf_t h1
  have hfa := bOf_t q3
  have hpl := (bOf_t q1).len
  have hk := rwN_len fun i hi => (hfa.val hi).1
  have h0 : rwN r 0 = ptU [] r.length := rfl
  clear h1 q1 q3
  repeat' ((conv => whnf); (first | (apply cx85; refine kl (hR) ?_) | (apply cx87; refine kl (tx87 (bs := []) (n := r.length)) ?_) | refine k0 ?_ | refine jA fun _ => ?_ | refine jB fun _ => ?_ | refine kC (fun _ => ?_) fun _ => ?_ | (apply cx85; refine kl tx85 ?_) | (apply cx87; refine kl tx87 ?_) | (apply cx88; refine kl tx88 ?_) | (apply cx89; refine kl tx89 ?_) | (apply cx90; refine kl tx90 ?_) | refine jst ?_ | exact ⟨rfl, rfl⟩ | exact jV | fail))
  conv => whnf
  refine loopk (ι := Nat × List UInt8) (fun i => i.1 ≤ r.length ∧ i.2 = rwN r i.1) (fun i => r.length - i.1) ((0, ptU [] r.length)) [15, 16] (fun i => [(5, rE 2 i.2), (17, .v false [i6 i.1])]) [none, none, some fun i => nE i.2] ?_
  refine ⟨⟨Nat.zero_le _, rfl⟩, ?_, fun ⟨i, o⟩ hi => ?_⟩
  · exact jw []
  · dsimp only at hi ⊢
    have hn : o.length ≤ 42 * i + 3 := by rw [hi.2]; exact hk i hi.1
    repeat' ((conv => whnf); (first | refine k0 ?_ | (apply cx85; refine kl tx85 ?_) | (apply cx87; refine kl tx87 ?_) | (apply cx88; refine kl tx88 ?_) | (apply cx89; refine kl tx89 ?_) | (apply cx90; refine kl tx90 ?_) | refine jst ?_ | exact ⟨rfl, rfl⟩ | exact jV | fail))
    conv => whnf
    refine ⟨fun hlt => ?_, fun hge => ?_⟩
    · dsimp only at hlt
      have hi2 : i < r.length := by omega
      obtain ⟨hs, hv⟩ := hfa.val hi2
      have hs3 := bl_len r[i].s
      have hu1 := uenc_len (clN_le r[i].k)
      have hu2 := uenc_len (clN_le (bl r[i].s).length)
      have hw := vrB_len r[i].n
      have hst := rwN_s hi2
      rcases hv with hv | hv | hv | hv | ⟨hv, hn1, hn2⟩
      · have e : ptU o r[i].k = rwN r (i + 1) := by rw [hst, rwV_0 hv, hi.2]
        repeat' ((conv => whnf); (first | (apply cx87; refine kl (tx87 (bs := o) (n := r[i].k)) ?_) | refine k0 ?_ | refine jA fun _ => ?_ | refine jB fun _ => ?_ | refine kC (fun _ => ?_) fun _ => ?_ | (apply cx85; refine kl tx85 ?_) | (apply cx87; refine kl tx87 ?_) | (apply cx88; refine kl tx88 ?_) | (apply cx89; refine kl tx89 ?_) | (apply cx90; refine kl tx90 ?_) | refine jst ?_ | exact ⟨rfl, rfl⟩ | exact jV | fail))
        refine ⟨⟨(i + 1, ptU o r[i].k), by simp only; omega, e⟩, by simp only; omega, ?_⟩
        dsimp only
        exact jw []
      · have e : ptW (ptU o r[i].k) r[i].n = rwN r (i + 1) := by rw [hst, rwV_1 (.inl hv), hi.2]; simp
        repeat' ((conv => whnf); (first | (apply cx87; refine kl (tx87 (bs := o) (n := r[i].k)) ?_) | (apply cx88; refine kl (tx88 (bs := ptU o r[i].k) (n := r[i].n)) ?_) | refine k0 ?_ | refine jA fun _ => ?_ | refine jB fun _ => ?_ | refine kC (fun _ => ?_) fun _ => ?_ | (apply cx85; refine kl tx85 ?_) | (apply cx87; refine kl tx87 ?_) | (apply cx88; refine kl tx88 ?_) | (apply cx89; refine kl tx89 ?_) | (apply cx90; refine kl tx90 ?_) | refine jst ?_ | exact ⟨rfl, rfl⟩ | exact jV | fail))
        refine ⟨⟨(i + 1, ptW (ptU o r[i].k) r[i].n), by simp only; omega, e⟩, by simp only; omega, ?_⟩
        dsimp only
        exact jw []
      · have e : ptW (ptU o r[i].k) r[i].n = rwN r (i + 1) := by rw [hst, rwV_1 (.inr hv), hi.2]; simp
        repeat' ((conv => whnf); (first | (apply cx87; refine kl (tx87 (bs := o) (n := r[i].k)) ?_) | (apply cx88; refine kl (tx88 (bs := ptU o r[i].k) (n := r[i].n)) ?_) | refine k0 ?_ | refine jA fun _ => ?_ | refine jB fun _ => ?_ | refine kC (fun _ => ?_) fun _ => ?_ | (apply cx85; refine kl tx85 ?_) | (apply cx87; refine kl tx87 ?_) | (apply cx88; refine kl tx88 ?_) | (apply cx89; refine kl tx89 ?_) | (apply cx90; refine kl tx90 ?_) | refine jst ?_ | exact ⟨rfl, rfl⟩ | exact jV | fail))
        refine ⟨⟨(i + 1, ptW (ptU o r[i].k) r[i].n), by simp only; omega, e⟩, by simp only; omega, ?_⟩
        dsimp only
        exact jw []
      · have e : ptT (ptU o r[i].k) (bl r[i].s) = rwN r (i + 1) := by rw [hst, rwV_3 hv, hi.2]; simp
        repeat' ((conv => whnf); (first | (apply cx87; refine kl (tx87 (bs := o) (n := r[i].k)) ?_) | (apply cx89; refine kl (tx89 (bs := ptU o r[i].k) (s := r[i].s)) ?_) | refine k0 ?_ | refine jA fun _ => ?_ | refine jB fun _ => ?_ | refine kC (fun _ => ?_) fun _ => ?_ | (apply cx85; refine kl tx85 ?_) | (apply cx87; refine kl tx87 ?_) | (apply cx88; refine kl tx88 ?_) | (apply cx89; refine kl tx89 ?_) | (apply cx90; refine kl tx90 ?_) | refine jst ?_ | exact ⟨rfl, rfl⟩ | exact jV | fail))
        refine ⟨⟨(i + 1, ptT (ptU o r[i].k) (bl r[i].s)), by simp only; omega, e⟩, by simp only; omega, ?_⟩
        dsimp only
        exact jw []
      · obtain ⟨m, hm⟩ : ∃ m : Nat, r[i].n = m := ⟨r[i].n.toNat, by omega⟩
        have e : ptU o r[i].k ++ [UInt8.ofNat m] = rwN r (i + 1) := by rw [hst, rwV_4 hv hm, hi.2]; simp
        repeat' ((conv => whnf); (first | (apply cx87; refine kl (tx87 (bs := o) (n := r[i].k)) ?_) | refine Exists.intro _ (And.intro ((congrArg _ hm).trans (u8n _)) ?_) | refine jap (apB ?_) | refine k0 ?_ | refine jA fun _ => ?_ | refine jB fun _ => ?_ | refine kC (fun _ => ?_) fun _ => ?_ | (apply cx85; refine kl tx85 ?_) | (apply cx87; refine kl tx87 ?_) | (apply cx88; refine kl tx88 ?_) | (apply cx89; refine kl tx89 ?_) | (apply cx90; refine kl tx90 ?_) | refine jst ?_ | exact ⟨rfl, rfl⟩ | exact jV | fail))
        refine ⟨⟨(i + 1, ptU o r[i].k ++ [UInt8.ofNat m]), by simp only; omega, e⟩, by simp only; omega, ?_⟩
        dsimp only
        exact jw []
    · dsimp only at hge
      obtain rfl : i = r.length := by omega
      repeat' ((conv => whnf); (first | refine k0 ?_ | refine jA fun _ => ?_ | refine jB fun _ => ?_ | refine kC (fun _ => ?_) fun _ => ?_ | (apply cx85; refine kl tx85 ?_) | (apply cx87; refine kl tx87 ?_) | (apply cx88; refine kl tx88 ?_) | (apply cx89; refine kl tx89 ?_) | (apply cx90; refine kl tx90 ?_) | refine jst ?_ | exact ⟨rfl, rfl⟩ | exact jV | fail))
      all_goals exact ⟨by rw [← hi.2], rfl⟩

theorem cx49 {P : Program} {X : FuncId → List Arg → List (Bool × List Cell) → List (Option (List Cell)) → Prop} {a : List Arg} {Q : List (Bool × List Cell) → List (Option (List Cell)) → Prop} (h : ∃ b vals outs, a = b ∧ D P X (.call 49 b vals outs) ∧ Q vals outs) : CallS P X 49 a Q := ⟨h⟩

set_option maxHeartbeats 2000000 in
set_option maxRecDepth 100000 in
theorem tx126 {l : List Prt} {r : List Vl} (hl : l.length ≤ 2000000 := by first | assumption | omega | (simp; done) | (simp; omega)) (hr : r.length ≤ 2000000 ∧ ∀ i (h : i < r.length), r[i].s.size ≤ 2000000 := by first | assumption | omega | (simp; done) | (simp; omega)) : T 126 [aE l, aE r] [vE (enB l r)] [none, none] := by
  refine w_call md [] Tryz.func126 rfl ?_
  have hR : T 92 [aE l, aE r] [vB (roOk l r)] [none, none] := tx92
  obtain ⟨hr1, hr2⟩ := hr
  cases h1 : roOk l r
  · rw [h1] at hR
    rw [enB_0 h1]
    repeat' ((conv => whnf); (first | (apply cx92; refine kl (hR) ?_) | refine k0 ?_ | refine jA fun _ => ?_ | refine jB fun _ => ?_ | refine kC (fun _ => ?_) fun _ => ?_ | (apply cx92; refine kl tx92 ?_) | (apply cx145; refine kl tx145 ?_) | (apply cx146; refine kl tx146 ?_) | (apply cx147; refine kl tx147 ?_) | (apply cx148; refine kl tx148 ?_) | refine jst ?_ | exact ⟨rfl, rfl⟩ | exact jV | fail))
  rw [enB_1 h1]
  rw [h1] at hR
  obtain ⟨q1, q2, q3⟩ := bOf_t h1
  have hfa := bOf_t q3
  have hpl := (bOf_t q1).len
  have hk := rwN_len fun i hi => (hfa.val hi).1
  have h0 : rwN r 0 = ptU [] r.length := rfl
  clear h1 q1 q3
  repeat' ((conv => whnf); (first | (apply cx92; refine kl (hR) ?_) | (apply cx145; refine kl (tx145 (bs := []) (n := r.length)) ?_) | refine k0 ?_ | refine jA fun _ => ?_ | refine jB fun _ => ?_ | refine kC (fun _ => ?_) fun _ => ?_ | (apply cx92; refine kl tx92 ?_) | (apply cx145; refine kl tx145 ?_) | (apply cx146; refine kl tx146 ?_) | (apply cx147; refine kl tx147 ?_) | (apply cx148; refine kl tx148 ?_) | refine jst ?_ | exact ⟨rfl, rfl⟩ | exact jV | fail))
  conv => whnf
  refine loopk (ι := Nat × List UInt8) (fun i => i.1 ≤ r.length ∧ i.2 = rwN r i.1) (fun i => r.length - i.1) ((0, ptU [] r.length)) [1] (fun i => [(5, rE 2 i.2), (6, .v false [i6 i.1])]) [none, none, some fun i => nE i.2] ?_
  refine ⟨⟨Nat.zero_le _, rfl⟩, ?_, fun ⟨i, o⟩ hi => ?_⟩
  · exact jw []
  · dsimp only at hi ⊢
    have hn : o.length ≤ 42 * i + 3 := by rw [hi.2]; exact hk i hi.1
    repeat' ((conv => whnf); (first | refine k0 ?_ | (apply cx92; refine kl tx92 ?_) | (apply cx145; refine kl tx145 ?_) | (apply cx146; refine kl tx146 ?_) | (apply cx147; refine kl tx147 ?_) | (apply cx148; refine kl tx148 ?_) | refine jst ?_ | exact ⟨rfl, rfl⟩ | exact jV | fail))
    conv => whnf
    refine ⟨fun hlt => ?_, fun hge => ?_⟩
    · dsimp only at hlt
      have hi2 : i < r.length := by omega
      obtain ⟨hs, hv⟩ := hfa.val hi2
      have hs3 := bl_len r[i].s
      have hu1 := uenc_len (clN_le r[i].k)
      have hu2 := uenc_len (clN_le (bl r[i].s).length)
      have hw := vrB_len r[i].n
      have hst := rwN_s hi2
      rcases hv with hv | hv | hv | hv | ⟨hv, hn1, hn2⟩
      · have e : ptU o r[i].k = rwN r (i + 1) := by rw [hst, rwV_0 hv, hi.2]
        repeat' ((conv => whnf); (first | (apply cx145; refine kl (tx145 (bs := o) (n := r[i].k)) ?_) | refine k0 ?_ | refine jA fun _ => ?_ | refine jB fun _ => ?_ | refine kC (fun _ => ?_) fun _ => ?_ | (apply cx92; refine kl tx92 ?_) | (apply cx145; refine kl tx145 ?_) | (apply cx146; refine kl tx146 ?_) | (apply cx147; refine kl tx147 ?_) | (apply cx148; refine kl tx148 ?_) | refine jst ?_ | exact ⟨rfl, rfl⟩ | exact jV | fail))
        refine ⟨⟨(i + 1, ptU o r[i].k), by simp only; omega, e⟩, by simp only; omega, ?_⟩
        dsimp only
        exact jw []
      · have e : ptW (ptU o r[i].k) r[i].n = rwN r (i + 1) := by rw [hst, rwV_1 (.inl hv), hi.2]; simp
        repeat' ((conv => whnf); (first | (apply cx145; refine kl (tx145 (bs := o) (n := r[i].k)) ?_) | (apply cx146; refine kl (tx146 (bs := ptU o r[i].k) (n := r[i].n)) ?_) | refine k0 ?_ | refine jA fun _ => ?_ | refine jB fun _ => ?_ | refine kC (fun _ => ?_) fun _ => ?_ | (apply cx92; refine kl tx92 ?_) | (apply cx145; refine kl tx145 ?_) | (apply cx146; refine kl tx146 ?_) | (apply cx147; refine kl tx147 ?_) | (apply cx148; refine kl tx148 ?_) | refine jst ?_ | exact ⟨rfl, rfl⟩ | exact jV | fail))
        refine ⟨⟨(i + 1, ptW (ptU o r[i].k) r[i].n), by simp only; omega, e⟩, by simp only; omega, ?_⟩
        dsimp only
        exact jw []
      · have e : ptW (ptU o r[i].k) r[i].n = rwN r (i + 1) := by rw [hst, rwV_1 (.inr hv), hi.2]; simp
        repeat' ((conv => whnf); (first | (apply cx145; refine kl (tx145 (bs := o) (n := r[i].k)) ?_) | (apply cx146; refine kl (tx146 (bs := ptU o r[i].k) (n := r[i].n)) ?_) | refine k0 ?_ | refine jA fun _ => ?_ | refine jB fun _ => ?_ | refine kC (fun _ => ?_) fun _ => ?_ | (apply cx92; refine kl tx92 ?_) | (apply cx145; refine kl tx145 ?_) | (apply cx146; refine kl tx146 ?_) | (apply cx147; refine kl tx147 ?_) | (apply cx148; refine kl tx148 ?_) | refine jst ?_ | exact ⟨rfl, rfl⟩ | exact jV | fail))
        refine ⟨⟨(i + 1, ptW (ptU o r[i].k) r[i].n), by simp only; omega, e⟩, by simp only; omega, ?_⟩
        dsimp only
        exact jw []
      · have e : ptT (ptU o r[i].k) (bl r[i].s) = rwN r (i + 1) := by rw [hst, rwV_3 hv, hi.2]; simp
        repeat' ((conv => whnf); (first | (apply cx145; refine kl (tx145 (bs := o) (n := r[i].k)) ?_) | (apply cx147; refine kl (tx147 (bs := ptU o r[i].k) (s := r[i].s)) ?_) | refine k0 ?_ | refine jA fun _ => ?_ | refine jB fun _ => ?_ | refine kC (fun _ => ?_) fun _ => ?_ | (apply cx92; refine kl tx92 ?_) | (apply cx145; refine kl tx145 ?_) | (apply cx146; refine kl tx146 ?_) | (apply cx147; refine kl tx147 ?_) | (apply cx148; refine kl tx148 ?_) | refine jst ?_ | exact ⟨rfl, rfl⟩ | exact jV | fail))
        refine ⟨⟨(i + 1, ptT (ptU o r[i].k) (bl r[i].s)), by simp only; omega, e⟩, by simp only; omega, ?_⟩
        dsimp only
        exact jw []
      · obtain ⟨m, hm⟩ : ∃ m : Nat, r[i].n = m := ⟨r[i].n.toNat, by omega⟩
        have e : ptU o r[i].k ++ [UInt8.ofNat m] = rwN r (i + 1) := by rw [hst, rwV_4 hv hm, hi.2]; simp
        repeat' ((conv => whnf); (first | (apply cx145; refine kl (tx145 (bs := o) (n := r[i].k)) ?_) | refine Exists.intro _ (And.intro ((congrArg _ hm).trans (u8n _)) ?_) | refine jap (apB ?_) | refine k0 ?_ | refine jA fun _ => ?_ | refine jB fun _ => ?_ | refine kC (fun _ => ?_) fun _ => ?_ | (apply cx92; refine kl tx92 ?_) | (apply cx145; refine kl tx145 ?_) | (apply cx146; refine kl tx146 ?_) | (apply cx147; refine kl tx147 ?_) | (apply cx148; refine kl tx148 ?_) | refine jst ?_ | exact ⟨rfl, rfl⟩ | exact jV | fail))
        refine ⟨⟨(i + 1, ptU o r[i].k ++ [UInt8.ofNat m]), by simp only; omega, e⟩, by simp only; omega, ?_⟩
        dsimp only
        exact jw []
    · dsimp only at hge
      obtain rfl : i = r.length := by omega
      repeat' ((conv => whnf); (first | refine k0 ?_ | refine jA fun _ => ?_ | refine jB fun _ => ?_ | refine kC (fun _ => ?_) fun _ => ?_ | (apply cx92; refine kl tx92 ?_) | (apply cx145; refine kl tx145 ?_) | (apply cx146; refine kl tx146 ?_) | (apply cx147; refine kl tx147 ?_) | (apply cx148; refine kl tx148 ?_) | refine jst ?_ | exact ⟨rfl, rfl⟩ | exact jV | fail))
      all_goals exact ⟨by rw [← hi.2], rfl⟩

theorem cx126 {P : Program} {X : FuncId → List Arg → List (Bool × List Cell) → List (Option (List Cell)) → Prop} {a : List Arg} {Q : List (Bool × List Cell) → List (Option (List Cell)) → Prop} (h : ∃ b vals outs, a = b ∧ D P X (.call 126 b vals outs) ∧ Q vals outs) : CallS P X 126 a Q := ⟨h⟩
end

section
open Go Go.RowKit Go.IntWalk

open Enc (sz cs)

attribute [local irreducible] IntKind.wrap

/-! ### Plans -/

attribute [local irreducible] ptsO ptO pkR ppN bOf fstI fbN cdN kyB enB

theorem cd_all {d : Df} (h : cdN d = 0) : d.idx.length ≤ 2 ∧ AllOk d ∧ TypOk d := by
  cases h1 : nmsOk d with
  | false => rw [cdN_1 h1] at h; cases h
  | true =>
    cases h2 : typOk d with
    | false => rw [cdN_2 h1 h2] at h; cases h
    | true =>
      cases h3 : oncOk d with
      | false => rw [cdN_3 h1 h2 h3] at h; cases h
      | true =>
        by_cases h4 : 2 < d.idx.length
        · rw [cdN_6 h1 h2 h3 h4] at h; cases h
        · cases h5 : allOk d with
          | false => rw [cdN_5 h1 h2 h3 h4 h5] at h; cases h
          | true => exact ⟨by omega, bOf_t h5, bOf_t h2⟩

noncomputable def ixN (d : Df) (i : Int) : List Prt := if h : cdN d = 0 ∧ 0 ≤ i ∧ i.toNat < d.idx.length then ptsO d (d.idx[i.toNat]'h.2.2).parts ++ ptsO d d.prim else []

theorem ixN_y {d : Df} {i : Int} (h : cdN d = 0) (h1 : 0 ≤ i) (h2 : i.toNat < d.idx.length) : ixN d i = ptsO d d.idx[i.toNat].parts ++ ptsO d d.prim := dif_pos ⟨h, h1, h2⟩

theorem ixN_n {d : Df} {i : Int} (h : ¬ (cdN d = 0 ∧ 0 ≤ i ∧ i.toNat < d.idx.length)) : ixN d i = [] := dif_neg h

theorem ixN_len {d : Df} {i : Int} : (ixN d i).length ≤ 4 := by
  by_cases h : cdN d = 0 ∧ 0 ≤ i ∧ i.toNat < d.idx.length
  · rw [ixN_y h.1 h.2.1 h.2.2, List.length_append, ptsO_len, ptsO_len]
    obtain ⟨_, ha, _⟩ := cd_all h.1
    have h1 := inB_iff.1 (bOf_t (ha.idx _ h.2.2)).len
    have h2 := inB_iff.1 (bOf_t ha.prim).len
    omega
  · rw [ixN_n h]; exact Nat.zero_le _

set_option maxHeartbeats 2000000 in
set_option maxRecDepth 100000 in
theorem tx135 {d : Df} {i : Int} (hd : zDf d ≤ 2000000 := by first | assumption | omega | (simp; done) | (simp; omega)) : T 135 [.val true (dfC false d), aI i] [vE (ixN d i)] [none, none] := by
  refine w_call md [[4]] Tryz.func135 rfl ?_
  obtain ⟨q1, q2, q3, q4, q5, q6⟩ := zDf_b hd
  by_cases h : cdN d = 0
  · obtain ⟨hi2, ha, _⟩ := cd_all h
    have hp := cd_prt h
    have hC : T 61 [.val true (dfC false d)] [vI 0] [none] := by
      have h2 := tx61 (d := d)
      rwa [h] at h2
    by_cases hin : inB i 0 ((d.idx.length : Int) - 1) = true
    · have hI : T 45 [aI i, aI 0, aI ((d.idx.length : Int) - 1)] [vB true] [none, none, none] := by
        have h := tx45 (n := i) (l := 0) (h := (d.idx.length : Int) - 1)
        rwa [hin] at h
      have hb := inB_iff.1 hin
      have h2 : i.toNat < d.idx.length := by omega
      have hx := bOf_t (ha.idx _ h2)
      have hx1 := inB_iff.1 hx.len
      have hp1 := inB_iff.1 hp.len
      have l1 := ptsO_len (d := d) (l := d.idx[i.toNat].parts)
      have l2 := ptsO_len (d := d) (l := d.prim)
      rw [ixN_y h hb.1 h2]
      repeat' ((conv => whnf); (first | (apply cx61; refine kl (hC) ?_) | (apply cx45; refine kl (hI) ?_) | refine And.intro ⟨by omega, by omega⟩ (Exists.intro _ (And.intro (rdI (i := i.toNat) (by omega) (by omega)) ?_)) | (apply cx62; refine kl (tx62 (d := d) (l := d.idx[i.toNat].parts)) ?_) | (apply cx62; refine kl (tx62 (d := d) (l := d.prim)) ?_) | refine Exists.intro _ (Exists.intro _ (And.intro (srcO (α := Prt) (xs := ptsO d d.prim) rfl rfl) (And.intro ⟨by simp, bgb (by omega), bg (by omega)⟩ (apE (ys := ptsO d d.prim) ?_)))) | refine k0 ?_ | refine jA fun _ => ?_ | refine jB fun _ => ?_ | refine kC (fun _ => ?_) fun _ => ?_ | (apply cx61; refine kl tx61 ?_) | (apply cx45; refine kl tx45 ?_) | (apply cx62; refine kl tx62 ?_) | refine jst ?_ | exact ⟨rfl, rfl⟩ | exact jV | fail))
    · have hI : T 45 [aI i, aI 0, aI ((d.idx.length : Int) - 1)] [vB false] [none, none, none] := by
        have h := tx45 (n := i) (l := 0) (h := (d.idx.length : Int) - 1)
        rwa [bNt hin] at h
      rw [ixN_n fun q => hin (inB_iff.2 (by omega))]
      repeat' ((conv => whnf); (first | (apply cx61; refine kl (hC) ?_) | (apply cx45; refine kl (hI) ?_) | refine k0 ?_ | refine jA fun _ => ?_ | refine jB fun _ => ?_ | refine kC (fun _ => ?_) fun _ => ?_ | (apply cx61; refine kl tx61 ?_) | (apply cx45; refine kl tx45 ?_) | (apply cx62; refine kl tx62 ?_) | refine jst ?_ | exact ⟨rfl, rfl⟩ | exact jV | fail))
  · rw [ixN_n fun q => h q.1]
    repeat' ((conv => whnf); (first | (apply cx61; refine kl (tx61 (d := d)) ?_) | refine k0 ?_ | refine jA fun _ => ?_ | refine jB fun _ => ?_ | refine kC (fun _ => ?_) fun _ => ?_ | (apply cx61; refine kl tx61 ?_) | (apply cx45; refine kl tx45 ?_) | (apply cx62; refine kl tx62 ?_) | refine jst ?_ | exact ⟨rfl, rfl⟩ | exact jV | fail))

theorem cx135 {P : Program} {X : FuncId → List Arg → List (Bool × List Cell) → List (Option (List Cell)) → Prop} {a : List Arg} {Q : List (Bool × List Cell) → List (Option (List Cell)) → Prop} (h : ∃ b vals outs, a = b ∧ D P X (.call 135 b vals outs) ∧ Q vals outs) : CallS P X 135 a Q := ⟨h⟩

set_option maxHeartbeats 2000000 in
set_option maxRecDepth 100000 in
theorem tx161 {d : Df} {i : Int} (hd : zDf d ≤ 2000000 := by first | assumption | omega | (simp; done) | (simp; omega)) : T 161 [.val true (dfC false d), aI i] [vE (ixN d i)] [none, none] := by
  refine w_call md [] Tryz.func161 rfl ?_
  obtain ⟨q1, q2, q3, q4, q5, q6⟩ := zDf_b hd
  by_cases h : cdN d = 0
  · obtain ⟨hi2, ha, _⟩ := cd_all h
    have hp := cd_prt h
    have hC : T 40 [.val true (dfC false d)] [vI 0] [none] := by
      have h2 := tx40 (d := d)
      rwa [h] at h2
    by_cases hin : inB i 0 ((d.idx.length : Int) - 1) = true
    · have hI : T 39 [aI i, aI 0, aI ((d.idx.length : Int) - 1)] [vB true] [none, none, none] := by
        have h := tx39 (n := i) (l := 0) (h := (d.idx.length : Int) - 1)
        rwa [hin] at h
      have hb := inB_iff.1 hin
      have h2 : i.toNat < d.idx.length := by omega
      have hx := bOf_t (ha.idx _ h2)
      have hx1 := inB_iff.1 hx.len
      have hp1 := inB_iff.1 hp.len
      have l1 := ptsO_len (d := d) (l := d.idx[i.toNat].parts)
      have l2 := ptsO_len (d := d) (l := d.prim)
      rw [ixN_y h hb.1 h2]
      repeat' ((conv => whnf); (first | (apply cx40; refine kl (hC) ?_) | (apply cx39; refine kl (hI) ?_) | refine And.intro ⟨by omega, by omega⟩ (Exists.intro _ (And.intro (rdI (i := i.toNat) (by omega) (by omega)) ?_)) | (apply cx41; refine kl (tx41 (d := d) (l := d.idx[i.toNat].parts)) ?_) | (apply cx41; refine kl (tx41 (d := d) (l := d.prim)) ?_) | refine Exists.intro _ (Exists.intro _ (And.intro (srcO (α := Prt) (xs := ptsO d d.prim) rfl rfl) (And.intro ⟨by simp, bgb (by omega), bg (by omega)⟩ (apE (ys := ptsO d d.prim) ?_)))) | refine k0 ?_ | refine jA fun _ => ?_ | refine jB fun _ => ?_ | refine kC (fun _ => ?_) fun _ => ?_ | (apply cx40; refine kl tx40 ?_) | (apply cx39; refine kl tx39 ?_) | (apply cx41; refine kl tx41 ?_) | refine jst ?_ | exact ⟨rfl, rfl⟩ | exact jV | fail))
    · have hI : T 39 [aI i, aI 0, aI ((d.idx.length : Int) - 1)] [vB false] [none, none, none] := by
        have h := tx39 (n := i) (l := 0) (h := (d.idx.length : Int) - 1)
        rwa [bNt hin] at h
      rw [ixN_n fun q => hin (inB_iff.2 (by omega))]
      repeat' ((conv => whnf); (first | (apply cx40; refine kl (hC) ?_) | (apply cx39; refine kl (hI) ?_) | refine k0 ?_ | refine jA fun _ => ?_ | refine jB fun _ => ?_ | refine kC (fun _ => ?_) fun _ => ?_ | (apply cx40; refine kl tx40 ?_) | (apply cx39; refine kl tx39 ?_) | (apply cx41; refine kl tx41 ?_) | refine jst ?_ | exact ⟨rfl, rfl⟩ | exact jV | fail))
  · rw [ixN_n fun q => h q.1]
    repeat' ((conv => whnf); (first | (apply cx40; refine kl (tx40 (d := d)) ?_) | refine k0 ?_ | refine jA fun _ => ?_ | refine jB fun _ => ?_ | refine kC (fun _ => ?_) fun _ => ?_ | (apply cx40; refine kl tx40 ?_) | (apply cx39; refine kl tx39 ?_) | (apply cx41; refine kl tx41 ?_) | refine jst ?_ | exact ⟨rfl, rfl⟩ | exact jV | fail))

theorem cx161 {P : Program} {X : FuncId → List Arg → List (Bool × List Cell) → List (Option (List Cell)) → Prop} {a : List Arg} {Q : List (Bool × List Cell) → List (Option (List Cell)) → Prop} (h : ∃ b vals outs, a = b ∧ D P X (.call 161 b vals outs) ∧ Q vals outs) : CallS P X 161 a Q := ⟨h⟩

/-- The plan of rows. -/
def rpL (d : Df) : List Prt := d.cols.mapIdx fun i c => ⟨i, c.type, c.null, false⟩

theorem rpL_len {d : Df} : (rpL d).length = d.cols.length := List.length_mapIdx

theorem rpL_take {d : Df} {i : Nat} (h : i < d.cols.length) : (rpL d).take (i + 1) = (rpL d).take i ++ [⟨i, d.cols[i].type, d.cols[i].null, false⟩] := by
  rw [take_one (by rw [rpL_len]; exact h)]
  simp only [rpL, List.getElem_mapIdx]

noncomputable def rpN (d : Df) : List Prt := if cdN d = 0 then rpL d else []

theorem rpN_y {d : Df} (h : cdN d = 0) : rpN d = rpL d := if_pos h

theorem rpN_n {d : Df} (h : ¬ cdN d = 0) : rpN d = [] := if_neg h

theorem rpN_len {d : Df} : (rpN d).length ≤ 6 := by
  by_cases h : cdN d = 0
  · rw [rpN_y h, rpL_len]
    have := inB_iff.1 (cd_all h).2.2.len
    omega
  · rw [rpN_n h]; exact Nat.zero_le _

attribute [local irreducible] rpL

set_option maxHeartbeats 2000000 in
set_option maxRecDepth 100000 in
theorem tx50 {d : Df} (hd : zDf d ≤ 2000000 := by first | assumption | omega | (simp; done) | (simp; omega)) : T 50 [.val true (dfC false d)] [vE (rpN d)] [none] := by
  refine w_call md [[4]] Tryz.func50 rfl ?_
  obtain ⟨q1, q2, q3, q4, q5, q6⟩ := zDf_b hd
  by_cases h : cdN d = 0
  · have hC : T 61 [.val true (dfC false d)] [vI 0] [none] := by
      have h2 := tx61 (d := d)
      rwa [h] at h2
    rw [rpN_y h]
    repeat' ((conv => whnf); (first | (apply cx61; refine kl (hC) ?_) | refine k0 ?_ | refine jA fun _ => ?_ | refine jB fun _ => ?_ | refine kC (fun _ => ?_) fun _ => ?_ | (apply cx61; refine kl tx61 ?_) | refine jst ?_ | exact ⟨rfl, rfl⟩ | exact jV | fail))
    conv => whnf
    refine loopk (ι := Nat × List Prt) (fun i => i.1 ≤ d.cols.length ∧ i.2 = (rpL d).take i.1) (fun i => d.cols.length - i.1) ((0, [])) [10, 11] (fun i => [(3, rE 2 i.2), (12, .v false [i6 i.1])]) [none, none, some fun i => nE i.2] ?_
    refine ⟨⟨Nat.zero_le _, rfl⟩, ?_, fun ⟨a, o⟩ ha => ?_⟩
    · exact (w_virt 3 4 rfl rfl).trans (jw [])
    · dsimp only at ha ⊢
      have htl : o.length = a := by rw [ha.2]; exact tkl rpL_len ha.1
      repeat' ((conv => whnf); (first | refine k0 ?_ | (apply cx61; refine kl tx61 ?_) | refine jst ?_ | exact ⟨rfl, rfl⟩ | exact jV | fail))
      conv => whnf
      refine ⟨fun hlt => ?_, fun hge => ?_⟩
      · dsimp only at hlt
        have ha2 : a < d.cols.length := by omega
        repeat' ((conv => whnf); (first | refine jap (N := cs true ([⟨a, d.cols[a].type, d.cols[a].null, false⟩] : List Prt)) (apE ?_) | refine k0 ?_ | refine jA fun _ => ?_ | refine jB fun _ => ?_ | refine kC (fun _ => ?_) fun _ => ?_ | (apply cx61; refine kl tx61 ?_) | refine jst ?_ | exact ⟨rfl, rfl⟩ | exact jV | fail))
        refine ⟨⟨(a + 1, o ++ [⟨a, d.cols[a].type, d.cols[a].null, false⟩]), by simp only; omega, by simp only; rw [rpL_take ha2, ha.2]⟩, by simp only; omega, ?_⟩
        dsimp only
        exact jw []
      · dsimp only at hge
        obtain rfl : a = d.cols.length := by omega
        have e : o = rpL d := by rw [ha.2, ← rpL_len]; exact List.take_length
        repeat' ((conv => whnf); (first | refine k0 ?_ | refine jA fun _ => ?_ | refine jB fun _ => ?_ | refine kC (fun _ => ?_) fun _ => ?_ | (apply cx61; refine kl tx61 ?_) | refine jst ?_ | exact ⟨rfl, rfl⟩ | exact jV | fail))
        all_goals exact ⟨by rw [e], rfl⟩
  · rw [rpN_n h]
    repeat' ((conv => whnf); (first | (apply cx61; refine kl (tx61 (d := d)) ?_) | refine k0 ?_ | refine jA fun _ => ?_ | refine jB fun _ => ?_ | refine kC (fun _ => ?_) fun _ => ?_ | (apply cx61; refine kl tx61 ?_) | refine jst ?_ | exact ⟨rfl, rfl⟩ | exact jV | fail))

theorem cx50 {P : Program} {X : FuncId → List Arg → List (Bool × List Cell) → List (Option (List Cell)) → Prop} {a : List Arg} {Q : List (Bool × List Cell) → List (Option (List Cell)) → Prop} (h : ∃ b vals outs, a = b ∧ D P X (.call 50 b vals outs) ∧ Q vals outs) : CallS P X 50 a Q := ⟨h⟩

set_option maxHeartbeats 2000000 in
set_option maxRecDepth 100000 in
theorem tx93 {d : Df} (hd : zDf d ≤ 2000000 := by first | assumption | omega | (simp; done) | (simp; omega)) : T 93 [.val true (dfC false d)] [vE (rpN d)] [none] := by
  refine w_call md [] Tryz.func93 rfl ?_
  obtain ⟨q1, q2, q3, q4, q5, q6⟩ := zDf_b hd
  by_cases h : cdN d = 0
  · have hC : T 40 [.val true (dfC false d)] [vI 0] [none] := by
      have h2 := tx40 (d := d)
      rwa [h] at h2
    rw [rpN_y h]
    repeat' ((conv => whnf); (first | refine k0 ?_ | refine jA fun _ => ?_ | refine jB fun _ => ?_ | refine kC (fun _ => ?_) fun _ => ?_ | (apply cx40; refine kl tx40 ?_) | (apply cx79; refine kl tx79 ?_) | refine jst ?_ | exact ⟨rfl, rfl⟩ | exact jV | fail))
    conv => whnf
    refine loopk (ι := Nat × List Prt) (fun i => i.1 ≤ d.cols.length ∧ i.2 = (rpL d).take i.1) (fun i => d.cols.length - i.1) ((0, [])) [1] (fun i => [(3, rE 2 i.2), (4, .v false [i6 i.1])]) [none, some fun _ => some (true, dfC false d), some fun i => nE i.2] ?_
    refine ⟨⟨Nat.zero_le _, rfl⟩, ?_, fun ⟨a, o⟩ ha => ?_⟩
    · exact jw []
    · dsimp only at ha ⊢
      have htl : o.length = a := by rw [ha.2]; exact tkl rpL_len ha.1
      repeat' ((conv => whnf); (first | refine k0 ?_ | (apply cx40; refine kl tx40 ?_) | (apply cx79; refine kl tx79 ?_) | refine jst ?_ | exact ⟨rfl, rfl⟩ | exact jV | fail))
      conv => whnf
      refine ⟨fun hlt => ?_, fun hge => ?_⟩
      · dsimp only at hlt
        have ha2 : a < d.cols.length := by omega
        have hP : T 79 [.val true (dfC false d), aI (a : Nat), aB false] [(true, prtC ⟨a, d.cols[a].type, d.cols[a].null, false⟩)] [none, none, none] := by
          have h := tx79 (d := d) (p := ⟨a, false⟩) (h1 := by simp only; omega) (h2 := by simp only; omega)
          rw [ptO_at (by simp only; omega)] at h
          exact h
        repeat' ((conv => whnf); (first | (apply cx40; refine kl (hC) ?_) | (apply cx79; refine kl (hP) ?_) | refine jap (N := cs true ([⟨a, d.cols[a].type, d.cols[a].null, false⟩] : List Prt)) (apE ?_) | refine k0 ?_ | refine jA fun _ => ?_ | refine jB fun _ => ?_ | refine kC (fun _ => ?_) fun _ => ?_ | (apply cx40; refine kl tx40 ?_) | (apply cx79; refine kl tx79 ?_) | refine jst ?_ | exact ⟨rfl, rfl⟩ | exact jV | fail))
        refine ⟨⟨(a + 1, o ++ [⟨a, d.cols[a].type, d.cols[a].null, false⟩]), by simp only; omega, by simp only; rw [rpL_take ha2, ha.2]⟩, by simp only; omega, ?_⟩
        dsimp only
        exact jw []
      · dsimp only at hge
        obtain rfl : a = d.cols.length := by omega
        have e : o = rpL d := by rw [ha.2, ← rpL_len]; exact List.take_length
        repeat' ((conv => whnf); (first | refine k0 ?_ | refine jA fun _ => ?_ | refine jB fun _ => ?_ | refine kC (fun _ => ?_) fun _ => ?_ | (apply cx40; refine kl tx40 ?_) | (apply cx79; refine kl tx79 ?_) | refine jst ?_ | exact ⟨rfl, rfl⟩ | exact jV | fail))
        all_goals exact ⟨by rw [e], rfl⟩
  · rw [rpN_n h]
    repeat' ((conv => whnf); (first | refine k0 ?_ | refine jA fun _ => ?_ | refine jB fun _ => ?_ | refine kC (fun _ => ?_) fun _ => ?_ | (apply cx40; refine kl tx40 ?_) | (apply cx79; refine kl tx79 ?_) | refine jst ?_ | exact ⟨rfl, rfl⟩ | exact jV | fail))
    conv => whnf
    refine loopk (ι := Nat) (fun i => i = 0) (fun i => 0) (0) [1] (fun i => [(3, rE 2 ([] : List Prt)), (4, .v false [i6 i])]) [none, some fun _ => some (true, dfC false d), some fun _ => nE ([] : List Prt)] ?_
    refine ⟨rfl, ?_, fun a ha => ?_⟩
    · exact jw []
    · subst ha
      repeat' ((conv => whnf); (first | (apply cx40; refine kl (tx40 (d := d)) ?_) | refine k0 ?_ | refine jA fun _ => ?_ | refine jB fun _ => ?_ | refine kC (fun _ => ?_) fun _ => ?_ | (apply cx40; refine kl tx40 ?_) | (apply cx79; refine kl tx79 ?_) | refine jst ?_ | exact ⟨rfl, rfl⟩ | exact jV | fail))

theorem cx93 {P : Program} {X : FuncId → List Arg → List (Bool × List Cell) → List (Option (List Cell)) → Prop} {a : List Arg} {Q : List (Bool × List Cell) → List (Option (List Cell)) → Prop} (h : ∃ b vals outs, a = b ∧ D P X (.call 93 b vals outs) ∧ Q vals outs) : CallS P X 93 a Q := ⟨h⟩
end

section
open Go Go.RowKit Go.IntWalk

open Enc (sz cs)

attribute [local irreducible] IntKind.wrap

/-! ### Rows that are alike by an index -/

attribute [local irreducible] ptsO ptO pkR ppN bOf fstI fbN cdN ixN

theorem slP {id n k : Nat} (h : k ≤ n) (h0 : ¬ k = 0) : sliceT (.ref id 0 n 4) 4 0 k = some (.ref id (0 + 0 * 4) (k - 0) 4) := by
  unfold sliceT
  rw [if_pos (Nat.zero_le _)]
  show (if k ≤ n ∧ 4 = 4 then _ else _) = _
  rw [if_pos ⟨h, rfl⟩, if_neg (fun e => h0 e.symm)]

theorem tkP {P Q : List Prt} : ((cs true (P ++ Q)).drop (0 + 0 * 4)).take ((P.length - 0) * 4) = cs true P := by
  have := cs_drop0 (α := Prt) (o := true) (a := 0) (n := P.length) (xs := P ++ Q) (by simp)
  simpa using this

theorem csP {P Q : List Prt} : roifyL (((cs true (P ++ Q)).drop (0 + 0 * 4)).take ((P.length - 0) * 4)) = cs false P := by rw [tkP, cs_ro]

theorem snP {P Q : List Prt} : (0 + 0 * 4) + (P.length - 0) * 4 ≤ (cs true (P ++ Q)).length ∧ (((cs true (P ++ Q)).drop (0 + 0 * 4)).take ((P.length - 0) * 4)).all Cell.shal = true :=
  ⟨by rw [cs_len, List.length_append]; show _ ≤ (P.length + Q.length) * 4; omega, by rw [tkP]; exact cs_shal _⟩

abbrev byN (d : Df) (i : Nat) (h : i < d.idx.length) (row : List Vl) : List Vl := pkR (ptsO d d.idx[i].parts) row

set_option maxHeartbeats 2000000 in
set_option maxRecDepth 100000 in
theorem tx111 {d : Df} {i : Nat} {a b : List Vl} (hc : cdN d = 0 := by first | assumption | omega | (simp; done) | (simp; omega)) (hi : i < d.idx.length := by first | assumption | omega | (simp; done) | (simp; omega)) (hd : zDf d ≤ 2000000 := by first | assumption | omega | (simp; done) | (simp; omega)) (ha : a.length ≤ 2000000 := by first | assumption | omega | (simp; done) | (simp; omega)) (hb : b.length ≤ 2000000 := by first | assumption | omega | (simp; done) | (simp; omega)) : T 111 [.val true (dfC false d), aI (i : Nat), aE a, aE b] [vB (smR (byN d i hi a) (byN d i hi b))] [none, none, none, none] := by
  refine w_call md [] Tryz.func111 rfl ?_
  obtain ⟨q1, q2, q3, q4, q5, q6⟩ := zDf_b hd
  obtain ⟨_, hal, _⟩ := cd_all hc
  have hx1 := inB_iff.1 (bOf_t (hal.idx i hi)).len
  have hp1 := inB_iff.1 (cd_prt hc).len
  have l1 := ptsO_len (d := d) (l := d.idx[i].parts)
  have l2 := ptsO_len (d := d) (l := d.prim)
  have hI : T 135 [.val true (dfC false d), aI (i : Nat)] [vE (ptsO d d.idx[i].parts ++ ptsO d d.prim)] [none, none] := by
    have h := tx135 (d := d) (i := i)
    rwa [ixN_y hc (by omega) (by simpa using hi)] at h
  unfold byN
  generalize ptsO d d.idx[i].parts = P at *
  generalize ptsO d d.prim = Q at *
  have lpa := pkR_len (l := P) (r := a)
  have lpb := pkR_len (l := P) (r := b)
  repeat' ((conv => whnf); (first | (apply cx135; refine kl (hI) ?_) | refine And.intro ⟨by omega, by omega⟩ (Exists.intro _ (And.intro (rdI (i := i) (by omega) (by omega)) ?_)) | refine Exists.intro _ (Exists.intro P.length (Exists.intro _ (And.intro rfl (And.intro (bndN.trans (congrArg some l1.symm)) (And.intro (slP (by simp) (by omega)) ?_))))) | refine ⟨snP, _, csP, ?_⟩ | (apply cx18; refine kl (tx18 (l := P) (r := a)) ?_) | (apply cx18; refine kl (tx18 (l := P) (r := b)) ?_) | (apply cx20; refine kl (tx20 (a := pkR P a) (b := pkR P b)) ?_) | refine k0 ?_ | refine jA fun _ => ?_ | refine jB fun _ => ?_ | refine kC (fun _ => ?_) fun _ => ?_ | (apply cx135; refine kl tx135 ?_) | (apply cx18; refine kl tx18 ?_) | (apply cx20; refine kl tx20 ?_) | refine jst ?_ | exact ⟨rfl, rfl⟩ | exact jV | fail))
  all_goals first | exact ⟨vB1 (by assumption), rfl⟩ | exact ⟨vB0 (by assumption), rfl⟩

theorem cx111 {P : Program} {X : FuncId → List Arg → List (Bool × List Cell) → List (Option (List Cell)) → Prop} {a : List Arg} {Q : List (Bool × List Cell) → List (Option (List Cell)) → Prop} (h : ∃ b vals outs, a = b ∧ D P X (.call 111 b vals outs) ∧ Q vals outs) : CallS P X 111 a Q := ⟨h⟩

structure ClI (d : Df) (a b : List Vl) (i : Nat) (h : i < d.idx.length) : Prop where
  uni : d.idx[i].uniq = true
  by_ : byN d i h a = byN d i h b

/-- Rows are alike by an index that is unique. -/
abbrev Cla (d : Df) (a b : List Vl) : Prop := ∃ i, ∃ h : i < d.idx.length, ClI d a b i h

noncomputable def clN2 (d : Df) (a b : List Vl) : Bool := bOf (Cla d a b)

set_option maxHeartbeats 2000000 in
set_option maxRecDepth 100000 in
theorem tx83 {d : Df} {a b : List Vl} (hc : cdN d = 0 := by first | assumption | omega | (simp; done) | (simp; omega)) (hd : zDf d ≤ 2000000 := by first | assumption | omega | (simp; done) | (simp; omega)) (ha : a.length ≤ 2000000 := by first | assumption | omega | (simp; done) | (simp; omega)) (hb : b.length ≤ 2000000 := by first | assumption | omega | (simp; done) | (simp; omega)) : T 83 [.val true (dfC false d), aE a, aE b] [vB (clN2 d a b)] [none, none, none] := by
  refine w_call md [] Tryz.func83 rfl ?_
  obtain ⟨q1, q2, q3, q4, q5, q6⟩ := zDf_b hd
  repeat' ((conv => whnf); (first | refine k0 ?_ | refine jA fun _ => ?_ | refine jB fun _ => ?_ | refine kC (fun _ => ?_) fun _ => ?_ | (apply cx111; refine kl tx111 ?_) | refine jst ?_ | exact ⟨rfl, rfl⟩ | exact jV | fail))
  conv => whnf
  refine loopk (ι := Nat) (fun i => i ≤ d.idx.length ∧ ∀ j (h : j < d.idx.length), j < i → ¬ ClI d a b j h) (fun i => d.idx.length - i) (0) [1, 2, 3, 10, 11] (fun i => [(12, .v false [i6 i])]) [none, none, none, some fun _ => some (true, dfC false d)] ?_
  refine ⟨⟨by omega, by intros; omega⟩, ?_, fun i hi => ?_⟩
  · exact jw []
  · repeat' ((conv => whnf); (first | refine k0 ?_ | (apply cx111; refine kl tx111 ?_) | refine jst ?_ | exact ⟨rfl, rfl⟩ | exact jV | fail))
    conv => whnf
    refine ⟨fun hlt => ?_, fun hge => ?_⟩
    · have hi2 : i < d.idx.length := by omega
      have hS : T 111 [.val true (dfC false d), aI (i : Nat), aE a, aE b] [vB (smR (byN d i hi2 a) (byN d i hi2 b))] [none, none, none, none] := tx111 hc hi2
      repeat' ((conv => whnf); (first | refine k0 ?_ | refine jA fun _ => ?_ | refine jB fun _ => ?_ | refine kC (fun _ => ?_) fun _ => ?_ | (apply cx111; refine kl tx111 ?_) | refine jst ?_ | exact ⟨rfl, rfl⟩ | exact jV | fail))
      cases hu : d.idx[i].uniq
      · repeat' ((conv => whnf); (first | refine k0 ?_ | refine jA fun _ => ?_ | refine jB fun _ => ?_ | refine kC (fun _ => ?_) fun _ => ?_ | (apply cx111; refine kl tx111 ?_) | refine jst ?_ | exact ⟨rfl, rfl⟩ | exact jV | fail))
        refine ⟨⟨i + 1, by omega, all_suc hi.2 hi2 (fun q => bft hu q.uni)⟩, by simp only; omega, ?_⟩
        exact jw []
      · repeat' ((conv => whnf); (first | (apply cx111; refine kl (hS) ?_) | refine k0 ?_ | refine jA fun _ => ?_ | refine jB fun _ => ?_ | refine kC (fun _ => ?_) fun _ => ?_ | (apply cx111; refine kl tx111 ?_) | refine jst ?_ | exact ⟨rfl, rfl⟩ | exact jV | fail))
        · have hq : smR (byN d i hi2 a) (byN d i hi2 b) = true := by assumption
          exact ⟨vB1 (bOf_y ⟨i, hi2, hu, bOf_t hq⟩), rfl⟩
        · have hq : smR (byN d i hi2 a) (byN d i hi2 b) = false := by assumption
          refine ⟨⟨i + 1, by omega, all_suc hi.2 hi2 (fun q => bOf_f hq q.by_)⟩, by simp only; omega, ?_⟩
          exact jw []
    · obtain rfl : i = d.idx.length := by omega
      repeat' ((conv => whnf); (first | refine k0 ?_ | refine jA fun _ => ?_ | refine jB fun _ => ?_ | refine kC (fun _ => ?_) fun _ => ?_ | (apply cx111; refine kl tx111 ?_) | refine jst ?_ | exact ⟨rfl, rfl⟩ | exact jV | fail))
      exact ⟨vB0 (bOf_n fun q => by
        obtain ⟨j, hj, q⟩ := q
        exact hi.2 j hj hj q), rfl⟩

theorem cx83 {P : Program} {X : FuncId → List Arg → List (Bool × List Cell) → List (Option (List Cell)) → Prop} {a : List Arg} {Q : List (Bool × List Cell) → List (Option (List Cell)) → Prop} (h : ∃ b vals outs, a = b ∧ D P X (.call 83 b vals outs) ∧ Q vals outs) : CallS P X 83 a Q := ⟨h⟩

set_option maxHeartbeats 2000000 in
set_option maxRecDepth 100000 in
theorem tx96 {d : Df} {i : Nat} {row : List Vl} (hc : cdN d = 0 := by first | assumption | omega | (simp; done) | (simp; omega)) (hi : i < d.idx.length := by first | assumption | omega | (simp; done) | (simp; omega)) (hd : zDf d ≤ 2000000 := by first | assumption | omega | (simp; done) | (simp; omega)) (ha : row.length ≤ 2000000 := by first | assumption | omega | (simp; done) | (simp; omega)) : T 96 [.val true (dfC false d), aI (i : Nat), aE row] [vE (byN d i hi row)] [none, none, none] := by
  refine w_call md [] Tryz.func96 rfl ?_
  obtain ⟨q1, q2, q3, q4, q5, q6⟩ := zDf_b hd
  obtain ⟨_, hal, _⟩ := cd_all hc
  have hx := bOf_t (hal.idx i hi)
  have hx1 := inB_iff.1 hx.len
  have l1 := ptsO_len (d := d) (l := d.idx[i].parts)
  repeat' ((conv => whnf); (first | refine And.intro ⟨by omega, by omega⟩ (Exists.intro _ (And.intro (rdI (i := i) (by omega) (by omega)) ?_)) | (apply cx41; refine kl (tx41 (d := d) (l := d.idx[i].parts)) ?_) | (apply cx10; refine kl (tx10 (l := ptsO d d.idx[i].parts) (r := row)) ?_) | refine k0 ?_ | refine jA fun _ => ?_ | refine jB fun _ => ?_ | refine kC (fun _ => ?_) fun _ => ?_ | (apply cx41; refine kl tx41 ?_) | (apply cx10; refine kl tx10 ?_) | refine jst ?_ | exact ⟨rfl, rfl⟩ | exact jV | fail))

theorem cx96 {P : Program} {X : FuncId → List Arg → List (Bool × List Cell) → List (Option (List Cell)) → Prop} {a : List Arg} {Q : List (Bool × List Cell) → List (Option (List Cell)) → Prop} (h : ∃ b vals outs, a = b ∧ D P X (.call 96 b vals outs) ∧ Q vals outs) : CallS P X 96 a Q := ⟨h⟩

structure TkJ (d : Df) (rows : List (List Vl)) (row : List Vl) (i : Nat) (h : i < d.idx.length) (j : Nat) (hj : j < rows.length) : Prop where
  by_ : byN d i h rows[j] = byN d i h row
  ne : pkR (ppN d) rows[j] ≠ pkR (ppN d) row

structure TkI (d : Df) (rows : List (List Vl)) (row : List Vl) (i : Nat) (h : i < d.idx.length) : Prop where
  uni : d.idx[i].uniq = true
  ex : ∃ j, ∃ hj : j < rows.length, TkJ d rows row i h j hj

/-- A row of another key has the same of an index that is unique. -/
abbrev Tak (d : Df) (rows : List (List Vl)) (row : List Vl) : Prop := ∃ i, ∃ h : i < d.idx.length, TkI d rows row i h

noncomputable def tkN (d : Df) (rows : List (List Vl)) (row : List Vl) : Bool := bOf (Tak d rows row)

set_option maxHeartbeats 2000000 in
set_option maxRecDepth 100000 in
theorem tx56 {d : Df} {rows : List (List Vl)} {row : List Vl} (hc : cdN d = 0 := by first | assumption | omega | (simp; done) | (simp; omega)) (hd : zDf d ≤ 2000000 := by first | assumption | omega | (simp; done) | (simp; omega)) (hm : rows.length ≤ 2000000 ∧ ∀ j (hj : j < rows.length), rows[j].length ≤ 2000000 := by first | assumption | omega | (simp; done) | (simp; omega)) (hr : row.length ≤ 2000000 := by first | assumption | omega | (simp; done) | (simp; omega)) : T 56 [.val true (dfC false d), aE rows, aE row] [vB (tkN d rows row)] [none, none, none] := by
  refine w_call md [] Tryz.func56 rfl ?_
  obtain ⟨q1, q2, q3, q4, q5, q6⟩ := zDf_b hd
  obtain ⟨z3, z4⟩ := hm
  obtain ⟨_, hal, _⟩ := cd_all hc
  have hpl := ppN_len (d := d)
  have lpk := pkR_len (l := ppN d) (r := row)
  repeat' ((conv => whnf); (first | (apply cx74; refine kl (tx74 (d := d) (r := row)) ?_) | refine k0 ?_ | refine jA fun _ => ?_ | refine jB fun _ => ?_ | refine kC (fun _ => ?_) fun _ => ?_ | (apply cx74; refine kl tx74 ?_) | (apply cx96; refine kl tx96 ?_) | (apply cx95; refine kl tx95 ?_) | refine jst ?_ | exact ⟨rfl, rfl⟩ | exact jV | fail))
  conv => whnf
  refine loopk (ι := Nat) (fun i => i ≤ d.idx.length ∧ ∀ j (h : j < d.idx.length), j < i → ¬ TkI d rows row j h) (fun i => d.idx.length - i) (0) [1, 2, 3, 7] (fun i => [(8, .v false [i6 i])]) [none, none, none, some fun _ => some (true, dfC false d), some fun _ => nE (pkR (ppN d) row)] ?_
  refine ⟨⟨by omega, by intros; omega⟩, ?_, fun u hi => ?_⟩
  · exact jw []
  · repeat' ((conv => whnf); (first | refine k0 ?_ | (apply cx74; refine kl tx74 ?_) | (apply cx96; refine kl tx96 ?_) | (apply cx95; refine kl tx95 ?_) | refine jst ?_ | exact ⟨rfl, rfl⟩ | exact jV | fail))
    conv => whnf
    refine ⟨fun hlt => ?_, fun hge => ?_⟩
    · have hi2 : u < d.idx.length := by omega
      have lby : (byN d u hi2 row).length = _ := pkR_len
      have l1 := ptsO_len (d := d) (l := d.idx[u].parts)
      have hx1 := inB_iff.1 (bOf_t (hal.idx u hi2)).len
      repeat' ((conv => whnf); (first | refine And.intro ⟨by omega, by omega⟩ (Exists.intro _ (And.intro (rdI (i := u) (by omega) (by omega)) ?_)) | refine k0 ?_ | refine jA fun _ => ?_ | refine jB fun _ => ?_ | refine kC (fun _ => ?_) fun _ => ?_ | (apply cx74; refine kl tx74 ?_) | (apply cx96; refine kl tx96 ?_) | (apply cx95; refine kl tx95 ?_) | refine jst ?_ | exact ⟨rfl, rfl⟩ | exact jV | fail))
      cases hu : d.idx[u].uniq
      · repeat' ((conv => whnf); (first | refine k0 ?_ | refine jA fun _ => ?_ | refine jB fun _ => ?_ | refine kC (fun _ => ?_) fun _ => ?_ | (apply cx74; refine kl tx74 ?_) | (apply cx96; refine kl tx96 ?_) | (apply cx95; refine kl tx95 ?_) | refine jst ?_ | exact ⟨rfl, rfl⟩ | exact jV | fail))
        refine ⟨⟨u + 1, by omega, all_suc hi.2 hi2 (fun q => bft hu q.uni)⟩, by simp only; omega, ?_⟩
        exact jw []
      · repeat' ((conv => whnf); (first | (apply cx96; refine kl (tx96 (d := d) (i := u) (row := row) (hi := hi2)) ?_) | refine k0 ?_ | refine jA fun _ => ?_ | refine jB fun _ => ?_ | refine kC (fun _ => ?_) fun _ => ?_ | (apply cx74; refine kl tx74 ?_) | (apply cx96; refine kl tx96 ?_) | (apply cx95; refine kl tx95 ?_) | refine jst ?_ | exact ⟨rfl, rfl⟩ | exact jV | fail))
        conv => whnf
        refine loopk (ι := Nat) (fun i => i ≤ rows.length ∧ ∀ j (h : j < rows.length), j < i → ¬ TkJ d rows row u hi2 j h) (fun i => rows.length - i) (0) [1, 2, 3, 7, 8, 9] (fun i => [(10, .v false [i6 i])]) [none, none, none, some fun _ => some (true, dfC false d), some fun _ => nE (pkR (ppN d) row), some fun _ => nE (byN d u hi2 row)] ?_
        refine ⟨⟨by omega, by intros; omega⟩, ?_, fun k hk => ?_⟩
        · exact jw []
        · repeat' ((conv => whnf); (first | refine k0 ?_ | (apply cx74; refine kl tx74 ?_) | (apply cx96; refine kl tx96 ?_) | (apply cx95; refine kl tx95 ?_) | refine jst ?_ | exact ⟨rfl, rfl⟩ | exact jV | fail))
          conv => whnf
          refine ⟨fun hlt2 => ?_, fun hge2 => ?_⟩
          · have hk2 : k < rows.length := by omega
            have hz := z4 k hk2
            have lb2 : (byN d u hi2 rows[k]).length = _ := pkR_len
            have lp2 := pkR_len (l := ppN d) (r := rows[k])
            have hB : T 96 [.val true (dfC false d), aI (u : Nat), aE rows[k]] [vE (byN d u hi2 rows[k])] [none, none, none] := tx96 hc hi2
            have hS : T 95 [aE (byN d u hi2 rows[k]), aE (byN d u hi2 row)] [vB (smR (byN d u hi2 rows[k]) (byN d u hi2 row))] [none, none] := tx95
            have hS2 : T 95 [aE (pkR (ppN d) rows[k]), aE (pkR (ppN d) row)] [vB (smR (pkR (ppN d) rows[k]) (pkR (ppN d) row))] [none, none] := tx95
            cases e1 : smR (byN d u hi2 rows[k]) (byN d u hi2 row)
            · rw [e1] at hS
              repeat' ((conv => whnf); (first | (apply cx96; refine kl (hB) ?_) | (apply cx95; refine kl (hS) ?_) | refine k0 ?_ | refine jA fun _ => ?_ | refine jB fun _ => ?_ | refine kC (fun _ => ?_) fun _ => ?_ | (apply cx74; refine kl tx74 ?_) | (apply cx96; refine kl tx96 ?_) | (apply cx95; refine kl tx95 ?_) | refine jst ?_ | exact ⟨rfl, rfl⟩ | exact jV | fail))
              refine ⟨⟨k + 1, by omega, all_suc hk.2 hk2 (fun q => bOf_f e1 q.by_)⟩, by simp only; omega, ?_⟩
              exact jw []
            · rw [e1] at hS
              cases e2 : smR (pkR (ppN d) rows[k]) (pkR (ppN d) row)
              · rw [e2] at hS2
                repeat' ((conv => whnf); (first | (apply cx96; refine kl (hB) ?_) | (apply cx95; refine kl (hS) ?_) | (apply cx74; refine kl (tx74 (d := d) (r := rows[k])) ?_) | (apply cx95; refine kl (hS2) ?_) | refine k0 ?_ | refine jA fun _ => ?_ | refine jB fun _ => ?_ | refine kC (fun _ => ?_) fun _ => ?_ | (apply cx74; refine kl tx74 ?_) | (apply cx96; refine kl tx96 ?_) | (apply cx95; refine kl tx95 ?_) | refine jst ?_ | exact ⟨rfl, rfl⟩ | exact jV | fail))
                exact ⟨vB1 (bOf_y ⟨u, hi2, hu, k, hk2, bOf_t e1, bOf_f e2⟩), rfl⟩
              · rw [e2] at hS2
                repeat' ((conv => whnf); (first | (apply cx96; refine kl (hB) ?_) | (apply cx95; refine kl (hS) ?_) | (apply cx74; refine kl (tx74 (d := d) (r := rows[k])) ?_) | (apply cx95; refine kl (hS2) ?_) | refine k0 ?_ | refine jA fun _ => ?_ | refine jB fun _ => ?_ | refine kC (fun _ => ?_) fun _ => ?_ | (apply cx74; refine kl tx74 ?_) | (apply cx96; refine kl tx96 ?_) | (apply cx95; refine kl tx95 ?_) | refine jst ?_ | exact ⟨rfl, rfl⟩ | exact jV | fail))
                refine ⟨⟨k + 1, by omega, all_suc hk.2 hk2 (fun q => q.ne (bOf_t e2))⟩, by simp only; omega, ?_⟩
                exact jw []
          · obtain rfl : k = rows.length := by omega
            repeat' ((conv => whnf); (first | refine k0 ?_ | refine jA fun _ => ?_ | refine jB fun _ => ?_ | refine kC (fun _ => ?_) fun _ => ?_ | (apply cx74; refine kl tx74 ?_) | (apply cx96; refine kl tx96 ?_) | (apply cx95; refine kl tx95 ?_) | refine jst ?_ | exact ⟨rfl, rfl⟩ | exact jV | fail))
            refine ⟨⟨u + 1, by omega, all_suc hi.2 hi2 (fun q => by
              obtain ⟨j, hj, q⟩ := q.ex
              exact hk.2 j hj hj q)⟩, by simp only; omega, ?_⟩
            exact jw []
    · obtain rfl : u = d.idx.length := by omega
      repeat' ((conv => whnf); (first | refine k0 ?_ | refine jA fun _ => ?_ | refine jB fun _ => ?_ | refine kC (fun _ => ?_) fun _ => ?_ | (apply cx74; refine kl tx74 ?_) | (apply cx96; refine kl tx96 ?_) | (apply cx95; refine kl tx95 ?_) | refine jst ?_ | exact ⟨rfl, rfl⟩ | exact jV | fail))
      exact ⟨vB0 (bOf_n fun q => by
        obtain ⟨j, hj, q⟩ := q
        exact hi.2 j hj hj q), rfl⟩

theorem cx56 {P : Program} {X : FuncId → List Arg → List (Bool × List Cell) → List (Option (List Cell)) → Prop} {a : List Arg} {Q : List (Bool × List Cell) → List (Option (List Cell)) → Prop} (h : ∃ b vals outs, a = b ∧ D P X (.call 56 b vals outs) ∧ Q vals outs) : CallS P X 56 a Q := ⟨h⟩
end

section
open Go Go.RowKit Go.IntWalk

open Enc (sz cs)

attribute [local irreducible] IntKind.wrap

/-! ### Keys of rows -/

attribute [local irreducible] ptsO ptO pkR ppN bOf fstI fbN cdN kyB enB ixN rpN

noncomputable def plN (d : Df) (i : Int) : List Prt := if i < 0 then ppN d else ixN d i

theorem plN_p {d : Df} {i : Int} (h : i < 0) : plN d i = ppN d := if_pos h

theorem plN_i {d : Df} {i : Int} (h : ¬ i < 0) : plN d i = ixN d i := if_neg h

theorem plN_len {d : Df} {i : Int} : (plN d i).length ≤ 4 := by
  unfold plN
  split
  · have := ppN_len (d := d); omega
  · exact ixN_len

theorem pkR_sz {l : List Prt} {r : List Vl} {N : Nat} (h : ∀ i (h : i < r.length), r[i].s.size ≤ N) : ∀ i (h : i < (pkR l r).length), (pkR l r)[i].s.size ≤ N := by
  intro i hi
  have hi2 : i < l.length := by rwa [pkR_len] at hi
  have e : (pkR l r)[i] = pkV r l[i] := by simp only [pkR, List.getElem_map]
  rw [e]
  by_cases hin : inB l[i].col 0 ((r.length : Int) - 1) = true
  · have hb := inB_iff.1 hin
    have h2 : l[i].col.toNat < r.length := by omega
    rw [pkV_y hin h2]
    exact h _ h2
  · rw [pkV_n (bNt hin)]
    exact Nat.zero_le _

theorem kyB_len (l : List Prt) (r : List Vl) : (kyB l r).length ≤ 414 := by
  cases h1 : plOk l with
  | false => rw [kyB_0 (.inl h1)]; exact Nat.zero_le _
  | true => cases h2 : faOk l r with
    | false => rw [kyB_0 (.inr h2)]; exact Nat.zero_le _
    | true =>
      rw [kyB_1 h1 h2]
      have := kyN_len (bOf_t h2) r.length (Nat.le_refl _)
      have := (bOf_t h1).len
      have := (bOf_t h2).len
      omega

theorem enB_len (l : List Prt) (r : List Vl) : (enB l r).length ≤ 300 := by
  cases h1 : roOk l r with
  | false => rw [enB_0 h1]; exact Nat.zero_le _
  | true =>
    obtain ⟨q1, q2, q3⟩ := bOf_t h1
    rw [enB_1 h1, ptS, List.length_append]
    have := rwN_len (fun i hi => ((bOf_t q3).val hi).1) r.length (Nat.le_refl _)
    have := (bOf_t q1).len
    simp only [be4, List.length_cons, List.length_nil]
    omega

noncomputable def hdB (s : List Df) (t i : Int) : List UInt8 := match hxN s t i with
  | true => [UInt8.ofNat (t + 1).toNat, UInt8.ofNat (i + 1).toNat]
  | false => []

theorem hdB_y {s : List Df} {t i : Int} (h : hxN s t i = true) : hdB s t i = [UInt8.ofNat (t + 1).toNat, UInt8.ofNat (i + 1).toNat] := by unfold hdB; rw [h]

theorem hdB_n {s : List Df} {t i : Int} (h : hxN s t i = false) : hdB s t i = [] := by unfold hdB; rw [h]

/-- The key of a right row. -/
noncomputable def kyO (d : Df) (k : Nat) (i : Int) (row : List Vl) : List UInt8 := [UInt8.ofNat ((k : Int) + 1).toNat, UInt8.ofNat (i + 1).toNat] ++ kyB (plN d i) (pkR (plN d i) row)

theorem kyO_len {d : Df} {k : Nat} {i : Int} {row : List Vl} : (kyO d k i row).length ≤ 416 := by
  unfold kyO
  rw [List.length_append]
  have := kyB_len (plN d i) (pkR (plN d i) row)
  simp only [List.length_cons, List.length_nil]
  omega

noncomputable def koN (d : Df) (k : Nat) (i : Int) (row : List Vl) : List UInt8 := match roOk (rpN d) row with
  | true => kyO d k i row
  | false => []

theorem koN_y {d : Df} {k : Nat} {i : Int} {row : List Vl} (h : roOk (rpN d) row = true) : koN d k i row = kyO d k i row := by unfold koN; rw [h]

theorem koN_n {d : Df} {k : Nat} {i : Int} {row : List Vl} (h : roOk (rpN d) row = false) : koN d k i row = [] := by unfold koN; rw [h]

abbrev LgK (d : Df) (k : Nat) (row : List Vl) : Prop := roOk (rpN d) row = true ∧ ((∃ j, j < d.idx.length + 1 ∧ 48 < (kyO d k ((j : Int) - 1) row).length) ∨ 60 < (enB (rpN d) row).length)

noncomputable abbrev lkN (d : Df) (k : Nat) (row : List Vl) : Bool := bOf (LgK d k row)

theorem hx_i {s : List Df} {k j : Nat} (h : fbN s = -1) (h2 : k < s.length) (h3 : j < s[k].idx.length + 1) : hxN s k ((j : Int) - 1) = true :=
  bOf_y ⟨h, ⟨by omega, by simpa using h2⟩, inB_iff.2 (by
    have e : (s[((k : Nat) : Int).toNat]'(by simpa using h2)) = s[k] := by simp
    rw [e]; omega)⟩

attribute [local irreducible] kyO koN plN hdB

set_option maxRecDepth 100000 in
theorem tx124 {s : List Df} {t i : Int} (hs : zSc s ≤ 2000000 := by first | assumption | omega | (simp; done) | (simp; omega)) : T 124 [aE s, aI t, aI i] [vB (hxN s t i)] [none, none, none] := by
  refine w_call md [] Tryz.func124 rfl ?_
  obtain ⟨q1, q2⟩ := zSc_b hs
  by_cases h : fbN s = -1
  · have hF : T 29 [aE s] [vI (-1)] [none] := by
      have h2 := tx29 (s := s)
      rwa [h] at h2
    by_cases ht : inB t 0 ((s.length : Int) - 1) = true
    · have hb := inB_iff.1 ht
      have hI : T 39 [aI t, aI 0, aI ((s.length : Int) - 1)] [vB true] [none, none, none] := by
        have h := tx39 (n := t) (l := 0) (h := (s.length : Int) - 1)
        rwa [ht] at h
      have h2 : t.toNat < s.length := by omega
      have hz := zDf_b (q2 _ h2)
      have e : hxN s t i = inB i (-1) ((s[t.toNat].idx.length : Int) - 1) := by
        cases hv : inB i (-1) ((s[t.toNat].idx.length : Int) - 1) with
        | true => exact bOf_y ⟨h, ⟨by omega, h2⟩, hv⟩
        | false =>
          refine bOf_n fun q => ?_
          obtain ⟨_, _, q⟩ := q
          exact bft hv q
      have hq := hz.2.2.2.1
      clear hz
      rw [e]
      repeat' ((conv => whnf); (first | (apply cx29; refine kl (hF) ?_) | (apply cx39; refine kl (hI) ?_) | refine And.intro ⟨by omega, by omega⟩ (Exists.intro _ (And.intro (rdI (i := t.toNat) (by omega) (by omega)) ?_)) | (apply cx39; refine kl (tx39 (n := i) (l := -1) (h := (s[t.toNat].idx.length : Int) - 1)) ?_) | refine k0 ?_ | refine jA fun _ => ?_ | refine jB fun _ => ?_ | refine kC (fun _ => ?_) fun _ => ?_ | (apply cx29; refine kl tx29 ?_) | (apply cx39; refine kl tx39 ?_) | refine jst ?_ | exact ⟨rfl, rfl⟩ | exact jV | fail))
      all_goals first | exact ⟨vB1 (by assumption), rfl⟩ | exact ⟨vB0 (by assumption), rfl⟩
    · have hI : T 39 [aI t, aI 0, aI ((s.length : Int) - 1)] [vB false] [none, none, none] := by
        have h := tx39 (n := t) (l := 0) (h := (s.length : Int) - 1)
        rwa [bNt ht] at h
      repeat' ((conv => whnf); (first | (apply cx29; refine kl (hF) ?_) | (apply cx39; refine kl (hI) ?_) | refine k0 ?_ | refine jA fun _ => ?_ | refine jB fun _ => ?_ | refine kC (fun _ => ?_) fun _ => ?_ | (apply cx29; refine kl tx29 ?_) | (apply cx39; refine kl tx39 ?_) | refine jst ?_ | exact ⟨rfl, rfl⟩ | exact jV | fail))
      exact ⟨vB0 (bOf_n fun q => by
        obtain ⟨_, hq, _⟩ := q
        exact ht (inB_iff.2 (by omega))), rfl⟩
  · repeat' ((conv => whnf); (first | (apply cx29; refine kl (tx29 (s := s)) ?_) | refine k0 ?_ | refine jA fun _ => ?_ | refine jB fun _ => ?_ | refine kC (fun _ => ?_) fun _ => ?_ | (apply cx29; refine kl tx29 ?_) | (apply cx39; refine kl tx39 ?_) | refine jst ?_ | exact ⟨rfl, rfl⟩ | exact jV | fail))
    exact ⟨vB0 (bOf_n fun q => h q.1), rfl⟩

theorem cx124 {P : Program} {X : FuncId → List Arg → List (Bool × List Cell) → List (Option (List Cell)) → Prop} {a : List Arg} {Q : List (Bool × List Cell) → List (Option (List Cell)) → Prop} (h : ∃ b vals outs, a = b ∧ D P X (.call 124 b vals outs) ∧ Q vals outs) : CallS P X 124 a Q := ⟨h⟩

set_option maxRecDepth 100000 in
theorem tx115 {d : Df} {i : Int} (hd : zDf d ≤ 2000000 := by first | assumption | omega | (simp; done) | (simp; omega)) (hi : -1 ≤ i := by first | assumption | omega | (simp; done) | (simp; omega)) : T 115 [.val true (dfC false d), aI i] [vE (plN d i)] [none, none] := by
  refine w_call md [[4]] Tryz.func115 rfl ?_
  by_cases h : i < 0
  · rw [plN_p h]
    repeat' ((conv => whnf); (first | refine k0 ?_ | refine jA fun _ => ?_ | refine jB fun _ => ?_ | refine kC (fun _ => ?_) fun _ => ?_ | (apply cx19; refine kl tx19 ?_) | (apply cx135; refine kl tx135 ?_) | refine jst ?_ | exact ⟨rfl, rfl⟩ | exact jV | fail))
  · rw [plN_i h]
    repeat' ((conv => whnf); (first | refine k0 ?_ | refine jA fun _ => ?_ | refine jB fun _ => ?_ | refine kC (fun _ => ?_) fun _ => ?_ | (apply cx19; refine kl tx19 ?_) | (apply cx135; refine kl tx135 ?_) | refine jst ?_ | exact ⟨rfl, rfl⟩ | exact jV | fail))

theorem cx115 {P : Program} {X : FuncId → List Arg → List (Bool × List Cell) → List (Option (List Cell)) → Prop} {a : List Arg} {Q : List (Bool × List Cell) → List (Option (List Cell)) → Prop} (h : ∃ b vals outs, a = b ∧ D P X (.call 115 b vals outs) ∧ Q vals outs) : CallS P X 115 a Q := ⟨h⟩

set_option maxRecDepth 100000 in
theorem tx116 {s : List Df} {t i : Int} (hs : zSc s ≤ 2000000 := by first | assumption | omega | (simp; done) | (simp; omega)) (hi : -1 ≤ i ∧ i ≤ 2000000 := by first | assumption | omega | (simp; done) | (simp; omega)) : T 116 [aE s, aI t, aI i] [vE (hdB s t i)] [none, none, none] := by
  refine w_call md [[1]] Tryz.func116 rfl ?_
  have hX : T 42 [aE s, aI t, aI i] [vB (hxN s t i)] [none, none, none] := tx42
  obtain ⟨hi1, hi2⟩ := hi
  have hs2 := (zSc_b hs).1
  cases hx : hxN s t i
  · rw [hx] at hX
    rw [hdB_n hx]
    repeat' ((conv => whnf); (first | (apply cx42; refine kl (hX) ?_) | refine k0 ?_ | refine jA fun _ => ?_ | refine jB fun _ => ?_ | refine kC (fun _ => ?_) fun _ => ?_ | (apply cx42; refine kl tx42 ?_) | refine jst ?_ | exact ⟨rfl, rfl⟩ | exact jV | fail))
  · rw [hx] at hX
    rw [hdB_y hx]
    obtain ⟨_, ⟨ht, ht2⟩, _⟩ := bOf_t hx
    obtain ⟨a, ha⟩ : ∃ a : Nat, t + 1 = a := ⟨(t + 1).toNat, by omega⟩
    obtain ⟨b, hb⟩ : ∃ b : Nat, i + 1 = b := ⟨(i + 1).toNat, by omega⟩
    rw [ha, hb]
    repeat' ((conv => whnf); (first | (apply cx42; refine kl (hX) ?_) | refine Exists.intro (a : Int) (And.intro ((i64_in _ (by omega)).trans ha) ?_) | refine Exists.intro (b : Int) (And.intro ((i64_in _ (by omega)).trans hb) ?_) | refine Exists.intro _ (And.intro (u8n _) ?_) | refine k0 ?_ | refine jA fun _ => ?_ | refine jB fun _ => ?_ | refine kC (fun _ => ?_) fun _ => ?_ | (apply cx42; refine kl tx42 ?_) | refine jst ?_ | exact ⟨rfl, rfl⟩ | exact jV | fail))

theorem cx116 {P : Program} {X : FuncId → List Arg → List (Bool × List Cell) → List (Option (List Cell)) → Prop} {a : List Arg} {Q : List (Bool × List Cell) → List (Option (List Cell)) → Prop} (h : ∃ b vals outs, a = b ∧ D P X (.call 116 b vals outs) ∧ Q vals outs) : CallS P X 116 a Q := ⟨h⟩

set_option maxHeartbeats 2000000 in
set_option maxRecDepth 100000 in
theorem tx86 {s : List Df} {k : Nat} {i : Int} {row : List Vl} (hk : k < s.length := by first | assumption | omega | (simp; done) | (simp; omega)) (hs : zSc s ≤ 2000000 := by first | assumption | omega | (simp; done) | (simp; omega)) (hi : -1 ≤ i ∧ i ≤ 2000000 := by first | assumption | omega | (simp; done) | (simp; omega)) (hx : hxN s k i = true := by first | assumption | omega | (simp; done) | (simp; omega)) (hr : row.length ≤ 2000000 ∧ ∀ i (h : i < row.length), row[i].s.size ≤ 2000000 := by first | assumption | omega | (simp; done) | (simp; omega)) : T 86 [aE s, aI (k : Nat), aI i, aE row] [vE (kyO s[k] k i row)] [none, none, none, none] := by
  refine w_call md [[1]] Tryz.func86 rfl ?_
  have hs2 := zSc_b hs
  have hz := hs2.2 k hk
  obtain ⟨hr1, hr2⟩ := hr
  obtain ⟨hi1, hi2⟩ := hi
  have hpl := plN_len (d := s[k]) (i := i)
  have hp := pkR_len (l := plN s[k] i) (r := row)
  have hps : (pkR (plN s[k] i) row).length ≤ 2000000 ∧ ∀ j (h : j < (pkR (plN s[k] i) row).length), (pkR (plN s[k] i) row)[j].s.size ≤ 2000000 := ⟨by omega, pkR_sz (l := plN s[k] i) hr2⟩
  have hkl := kyB_len (plN s[k] i) (pkR (plN s[k] i) row)
  have hH : T 116 [aE s, aI (k : Nat), aI i] [vE [UInt8.ofNat ((k : Int) + 1).toNat, UInt8.ofNat (i + 1).toNat]] [none, none, none] := by
    have h := tx116 (s := s) (t := k) (i := i)
    rwa [hdB_y hx] at h
  unfold kyO
  have hl2 : [UInt8.ofNat ((k : Int) + 1).toNat, UInt8.ofNat (i + 1).toNat].length = 2 := rfl
  generalize [UInt8.ofNat ((k : Int) + 1).toNat, UInt8.ofNat (i + 1).toNat] = hd at *
  repeat' ((conv => whnf); (first | refine And.intro ⟨by omega, by omega⟩ (Exists.intro _ (And.intro (rdI (i := k) (by omega) (by omega)) ?_)) | (apply cx115; refine kl (tx115 (d := s[k]) (i := i)) ?_) | (apply cx116; refine kl (hH) ?_) | (apply cx18; refine kl (tx18 (l := plN s[k] i) (r := row)) ?_) | (apply cx117; refine kl (tx117 (l := plN s[k] i) (r := pkR (plN s[k] i) row)) ?_) | refine Exists.intro _ (Exists.intro _ (And.intro (srcO (α := UInt8) (xs := kyB (plN s[k] i) (pkR (plN s[k] i) row)) rfl rfl) (And.intro ⟨by simp, bgb (by omega), bg (by omega)⟩ (apE (xs := hd) (ys := kyB (plN s[k] i) (pkR (plN s[k] i) row)) ?_)))) | refine k0 ?_ | refine jA fun _ => ?_ | refine jB fun _ => ?_ | refine kC (fun _ => ?_) fun _ => ?_ | (apply cx115; refine kl tx115 ?_) | (apply cx116; refine kl tx116 ?_) | (apply cx18; refine kl tx18 ?_) | (apply cx117; refine kl tx117 ?_) | refine jst ?_ | exact ⟨rfl, rfl⟩ | exact jV | fail))

theorem cx86 {P : Program} {X : FuncId → List Arg → List (Bool × List Cell) → List (Option (List Cell)) → Prop} {a : List Arg} {Q : List (Bool × List Cell) → List (Option (List Cell)) → Prop} (h : ∃ b vals outs, a = b ∧ D P X (.call 86 b vals outs) ∧ Q vals outs) : CallS P X 86 a Q := ⟨h⟩

set_option maxRecDepth 100000 in
theorem tx48 {s : List Df} {k : Nat} {i : Int} {row : List Vl} (hk : k < s.length := by first | assumption | omega | (simp; done) | (simp; omega)) (hs : zSc s ≤ 2000000 := by first | assumption | omega | (simp; done) | (simp; omega)) (hi : -1 ≤ i ∧ i ≤ 2000000 := by first | assumption | omega | (simp; done) | (simp; omega)) (hx : hxN s k i = true := by first | assumption | omega | (simp; done) | (simp; omega)) (hr : row.length ≤ 2000000 ∧ ∀ i (h : i < row.length), row[i].s.size ≤ 2000000 := by first | assumption | omega | (simp; done) | (simp; omega)) : T 48 [aE s, aI (k : Nat), aI i, aE row] [vE (koN s[k] k i row)] [none, none, none, none] := by
  refine w_call md [[1]] Tryz.func48 rfl ?_
  have hs2 := zSc_b hs
  have hz := hs2.2 k hk
  have hX : T 42 [aE s, aI (k : Nat), aI i] [vB true] [none, none, none] := by
    have h := tx42 (s := s) (t := k) (i := i)
    rwa [hx] at h
  have hrl := rpN_len (d := s[k])
  have hR : T 85 [aE (rpN s[k]), aE row] [vB (roOk (rpN s[k]) row)] [none, none] := tx85
  cases h : roOk (rpN s[k]) row
  · rw [h] at hR
    rw [koN_n h]
    repeat' ((conv => whnf); (first | (apply cx42; refine kl (hX) ?_) | refine And.intro ⟨by omega, by omega⟩ (Exists.intro _ (And.intro (rdI (i := k) (by omega) (by omega)) ?_)) | (apply cx50; refine kl (tx50 (d := s[k])) ?_) | (apply cx85; refine kl (hR) ?_) | refine k0 ?_ | refine jA fun _ => ?_ | refine jB fun _ => ?_ | refine kC (fun _ => ?_) fun _ => ?_ | (apply cx42; refine kl tx42 ?_) | (apply cx50; refine kl tx50 ?_) | (apply cx85; refine kl tx85 ?_) | (apply cx86; refine kl tx86 ?_) | refine jst ?_ | exact ⟨rfl, rfl⟩ | exact jV | fail))
  · rw [h] at hR
    rw [koN_y h]
    repeat' ((conv => whnf); (first | (apply cx42; refine kl (hX) ?_) | refine And.intro ⟨by omega, by omega⟩ (Exists.intro _ (And.intro (rdI (i := k) (by omega) (by omega)) ?_)) | (apply cx50; refine kl (tx50 (d := s[k])) ?_) | (apply cx85; refine kl (hR) ?_) | (apply cx86; refine kl (tx86 (s := s) (k := k) (i := i) (row := row)) ?_) | refine k0 ?_ | refine jA fun _ => ?_ | refine jB fun _ => ?_ | refine kC (fun _ => ?_) fun _ => ?_ | (apply cx42; refine kl tx42 ?_) | (apply cx50; refine kl tx50 ?_) | (apply cx85; refine kl tx85 ?_) | (apply cx86; refine kl tx86 ?_) | refine jst ?_ | exact ⟨rfl, rfl⟩ | exact jV | fail))

theorem cx48 {P : Program} {X : FuncId → List Arg → List (Bool × List Cell) → List (Option (List Cell)) → Prop} {a : List Arg} {Q : List (Bool × List Cell) → List (Option (List Cell)) → Prop} (h : ∃ b vals outs, a = b ∧ D P X (.call 48 b vals outs) ∧ Q vals outs) : CallS P X 48 a Q := ⟨h⟩

set_option maxRecDepth 100000 in
theorem tx142 {d : Df} {i : Int} (hd : zDf d ≤ 2000000 := by first | assumption | omega | (simp; done) | (simp; omega)) (hi : -1 ≤ i := by first | assumption | omega | (simp; done) | (simp; omega)) : T 142 [.val true (dfC false d), aI i] [vE (plN d i)] [none, none] := by
  refine w_call md [] Tryz.func142 rfl ?_
  by_cases h : i < 0
  · rw [plN_p h]
    repeat' ((conv => whnf); (first | refine k0 ?_ | refine jA fun _ => ?_ | refine jB fun _ => ?_ | refine kC (fun _ => ?_) fun _ => ?_ | (apply cx11; refine kl tx11 ?_) | (apply cx161; refine kl tx161 ?_) | refine jst ?_ | exact ⟨rfl, rfl⟩ | exact jV | fail))
  · rw [plN_i h]
    repeat' ((conv => whnf); (first | refine k0 ?_ | refine jA fun _ => ?_ | refine jB fun _ => ?_ | refine kC (fun _ => ?_) fun _ => ?_ | (apply cx11; refine kl tx11 ?_) | (apply cx161; refine kl tx161 ?_) | refine jst ?_ | exact ⟨rfl, rfl⟩ | exact jV | fail))

theorem cx142 {P : Program} {X : FuncId → List Arg → List (Bool × List Cell) → List (Option (List Cell)) → Prop} {a : List Arg} {Q : List (Bool × List Cell) → List (Option (List Cell)) → Prop} (h : ∃ b vals outs, a = b ∧ D P X (.call 142 b vals outs) ∧ Q vals outs) : CallS P X 142 a Q := ⟨h⟩

set_option maxRecDepth 100000 in
theorem tx143 {s : List Df} {t i : Int} (hs : zSc s ≤ 2000000 := by first | assumption | omega | (simp; done) | (simp; omega)) (hi : -1 ≤ i ∧ i ≤ 2000000 := by first | assumption | omega | (simp; done) | (simp; omega)) : T 143 [aE s, aI t, aI i] [vE (hdB s t i)] [none, none, none] := by
  refine w_call md [] Tryz.func143 rfl ?_
  have hX : T 124 [aE s, aI t, aI i] [vB (hxN s t i)] [none, none, none] := tx124
  obtain ⟨hi1, hi2⟩ := hi
  have hs2 := (zSc_b hs).1
  cases hx : hxN s t i
  · rw [hx] at hX
    rw [hdB_n hx]
    repeat' ((conv => whnf); (first | (apply cx124; refine kl (hX) ?_) | refine k0 ?_ | refine jA fun _ => ?_ | refine jB fun _ => ?_ | refine kC (fun _ => ?_) fun _ => ?_ | (apply cx124; refine kl tx124 ?_) | refine jst ?_ | exact ⟨rfl, rfl⟩ | exact jV | fail))
  · rw [hx] at hX
    rw [hdB_y hx]
    obtain ⟨_, ⟨ht, ht2⟩, _⟩ := bOf_t hx
    obtain ⟨a, ha⟩ : ∃ a : Nat, t + 1 = a := ⟨(t + 1).toNat, by omega⟩
    obtain ⟨b, hb⟩ : ∃ b : Nat, i + 1 = b := ⟨(i + 1).toNat, by omega⟩
    rw [ha, hb]
    repeat' ((conv => whnf); (first | (apply cx124; refine kl (hX) ?_) | refine Exists.intro (a : Int) (And.intro ((i64_in _ (by omega)).trans ha) ?_) | refine Exists.intro (b : Int) (And.intro ((i64_in _ (by omega)).trans hb) ?_) | refine Exists.intro _ (And.intro (u8n _) ?_) | refine k0 ?_ | refine jA fun _ => ?_ | refine jB fun _ => ?_ | refine kC (fun _ => ?_) fun _ => ?_ | (apply cx124; refine kl tx124 ?_) | refine jst ?_ | exact ⟨rfl, rfl⟩ | exact jV | fail))

theorem cx143 {P : Program} {X : FuncId → List Arg → List (Bool × List Cell) → List (Option (List Cell)) → Prop} {a : List Arg} {Q : List (Bool × List Cell) → List (Option (List Cell)) → Prop} (h : ∃ b vals outs, a = b ∧ D P X (.call 143 b vals outs) ∧ Q vals outs) : CallS P X 143 a Q := ⟨h⟩

set_option maxHeartbeats 2000000 in
set_option maxRecDepth 100000 in
theorem tx125 {s : List Df} {k : Nat} {i : Int} {row : List Vl} (hk : k < s.length := by first | assumption | omega | (simp; done) | (simp; omega)) (hs : zSc s ≤ 2000000 := by first | assumption | omega | (simp; done) | (simp; omega)) (hi : -1 ≤ i ∧ i ≤ 2000000 := by first | assumption | omega | (simp; done) | (simp; omega)) (hx : hxN s k i = true := by first | assumption | omega | (simp; done) | (simp; omega)) (hr : row.length ≤ 2000000 ∧ ∀ i (h : i < row.length), row[i].s.size ≤ 2000000 := by first | assumption | omega | (simp; done) | (simp; omega)) : T 125 [aE s, aI (k : Nat), aI i, aE row] [vE (kyO s[k] k i row)] [none, none, none, none] := by
  refine w_call md [] Tryz.func125 rfl ?_
  have hs2 := zSc_b hs
  have hz := hs2.2 k hk
  obtain ⟨hr1, hr2⟩ := hr
  obtain ⟨hi1, hi2⟩ := hi
  have hpl := plN_len (d := s[k]) (i := i)
  have hp := pkR_len (l := plN s[k] i) (r := row)
  have hps : (pkR (plN s[k] i) row).length ≤ 2000000 ∧ ∀ j (h : j < (pkR (plN s[k] i) row).length), (pkR (plN s[k] i) row)[j].s.size ≤ 2000000 := ⟨by omega, pkR_sz (l := plN s[k] i) hr2⟩
  have hkl := kyB_len (plN s[k] i) (pkR (plN s[k] i) row)
  have hH : T 143 [aE s, aI (k : Nat), aI i] [vE [UInt8.ofNat ((k : Int) + 1).toNat, UInt8.ofNat (i + 1).toNat]] [none, none, none] := by
    have h := tx143 (s := s) (t := k) (i := i)
    rwa [hdB_y hx] at h
  unfold kyO
  have hl2 : [UInt8.ofNat ((k : Int) + 1).toNat, UInt8.ofNat (i + 1).toNat].length = 2 := rfl
  generalize [UInt8.ofNat ((k : Int) + 1).toNat, UInt8.ofNat (i + 1).toNat] = hd at *
  repeat' ((conv => whnf); (first | refine And.intro ⟨by omega, by omega⟩ (Exists.intro _ (And.intro (rdI (i := k) (by omega) (by omega)) ?_)) | (apply cx142; refine kl (tx142 (d := s[k]) (i := i)) ?_) | (apply cx143; refine kl (hH) ?_) | (apply cx10; refine kl (tx10 (l := plN s[k] i) (r := row)) ?_) | (apply cx144; refine kl (tx144 (l := plN s[k] i) (r := pkR (plN s[k] i) row)) ?_) | refine Exists.intro _ (Exists.intro _ (And.intro (srcO (α := UInt8) (xs := kyB (plN s[k] i) (pkR (plN s[k] i) row)) rfl rfl) (And.intro ⟨by simp, bgb (by omega), bg (by omega)⟩ (apE (xs := hd) (ys := kyB (plN s[k] i) (pkR (plN s[k] i) row)) ?_)))) | refine k0 ?_ | refine jA fun _ => ?_ | refine jB fun _ => ?_ | refine kC (fun _ => ?_) fun _ => ?_ | (apply cx142; refine kl tx142 ?_) | (apply cx143; refine kl tx143 ?_) | (apply cx10; refine kl tx10 ?_) | (apply cx144; refine kl tx144 ?_) | refine jst ?_ | exact ⟨rfl, rfl⟩ | exact jV | fail))

theorem cx125 {P : Program} {X : FuncId → List Arg → List (Bool × List Cell) → List (Option (List Cell)) → Prop} {a : List Arg} {Q : List (Bool × List Cell) → List (Option (List Cell)) → Prop} (h : ∃ b vals outs, a = b ∧ D P X (.call 125 b vals outs) ∧ Q vals outs) : CallS P X 125 a Q := ⟨h⟩
end

section
open Go Go.RowKit Go.IntWalk

open Enc (sz cs)

attribute [local irreducible] IntKind.wrap

attribute [local irreducible] kyO koN plN enB rpN bOf fbN

theorem hx_m {s : List Df} {k : Nat} (h : fbN s = -1) (h2 : k < s.length) : hxN s k (-1) = true := hx_i (j := 0) h h2 (by omega)

set_option maxHeartbeats 2000000 in
set_option maxRecDepth 100000 in
theorem tx14 {s : List Df} {k : Nat} {row : List Vl} (hf : fbN s = -1 := by first | assumption | omega | (simp; done) | (simp; omega)) (hk : k < s.length := by first | assumption | omega | (simp; done) | (simp; omega)) (hs : zSc s ≤ 2000000 := by first | assumption | omega | (simp; done) | (simp; omega)) (hr : row.length ≤ 2000000 ∧ ∀ i (h : i < row.length), row[i].s.size ≤ 2000000 := by first | assumption | omega | (simp; done) | (simp; omega)) : T 14 [aE s, aI (k : Nat), aE row] [vB (lkN s[k] k row)] [none, none, none] := by
  refine w_call md [] Tryz.func14 rfl ?_
  have hs2 := zSc_b hs
  have hz := hs2.2 k hk
  have hr1 := hr.1
  obtain ⟨q1, q2, q3, q4, q5, q6⟩ := zDf_b hz
  have hX : T 42 [aE s, aI (k : Nat), aI (-1)] [vB true] [none, none, none] := by
    have h := tx42 (s := s) (t := k) (i := -1)
    rwa [hx_m hf hk] at h
  have hrl := rpN_len (d := s[k])
  have hel := enB_len (rpN s[k]) row
  repeat' ((conv => whnf); (first | (apply cx42; refine kl (hX) ?_) | refine k0 ?_ | refine jA fun _ => ?_ | refine jB fun _ => ?_ | refine kC (fun _ => ?_) fun _ => ?_ | (apply cx42; refine kl tx42 ?_) | (apply cx48; refine kl tx48 ?_) | (apply cx50; refine kl tx50 ?_) | (apply cx49; refine kl tx49 ?_) | refine jst ?_ | exact ⟨rfl, rfl⟩ | exact jV | fail))
  conv => whnf
  refine loopk (ι := Nat) (fun i => i ≤ s[k].idx.length + 1 ∧ ∀ j, j < i → ¬ 48 < (koN s[k] k ((j : Int) - 1) row).length) (fun i => s[k].idx.length + 1 - i) (0) [0, 1, 2] (fun i => [(7, .v false [i6 ((i : Int) - 1)])]) [none, none, none] ?_
  refine ⟨⟨by omega, by intros; omega⟩, ?_, fun i hi => ?_⟩
  · exact jw []
  · repeat' ((conv => whnf); (first | refine And.intro ⟨by omega, by omega⟩ (Exists.intro _ (And.intro (rdI (i := k) (by omega) (by omega)) ?_)) | refine k0 ?_ | (apply cx42; refine kl tx42 ?_) | (apply cx48; refine kl tx48 ?_) | (apply cx50; refine kl tx50 ?_) | (apply cx49; refine kl tx49 ?_) | refine jst ?_ | exact ⟨rfl, rfl⟩ | exact jV | fail))
    conv => whnf
    refine ⟨fun hlt => ?_, fun hge => ?_⟩
    · have hi2 : i < s[k].idx.length + 1 := by omega
      have hx := hx_i hf hk hi2
      have hkl : (koN s[k] k ((i : Int) - 1) row).length ≤ 416 := by
        cases h : roOk (rpN s[k]) row
        · rw [koN_n h]; exact Nat.zero_le _
        · rw [koN_y h]; exact kyO_len
      repeat' ((conv => whnf); (first | (apply cx48; refine kl (tx48 (s := s) (k := k) (i := (i : Int) - 1) (row := row)) ?_) | refine k0 ?_ | refine jA fun _ => ?_ | refine jB fun _ => ?_ | refine kC (fun _ => ?_) fun _ => ?_ | (apply cx42; refine kl tx42 ?_) | (apply cx48; refine kl tx48 ?_) | (apply cx50; refine kl tx50 ?_) | (apply cx49; refine kl tx49 ?_) | refine jst ?_ | exact ⟨rfl, rfl⟩ | exact jV | fail))
      · refine ⟨vB1 (bOf_y ?_), rfl⟩
        cases h : roOk (rpN s[k]) row
        · rw [koN_n h] at *
          exact absurd ‹((([] : List UInt8).length : Nat) : Int) > 48› (by simp)
        · rw [koN_y h] at *
          exact ⟨h, .inl ⟨i, hi2, by omega⟩⟩
      · refine ⟨⟨i + 1, by omega, all_s hi.2 (by omega)⟩, by simp only; omega, ?_⟩
        exact jw []
    · obtain rfl : i = s[k].idx.length + 1 := by omega
      repeat' ((conv => whnf); (first | refine And.intro ⟨by omega, by omega⟩ (Exists.intro _ (And.intro (rdI (i := k) (by omega) (by omega)) ?_)) | (apply cx50; refine kl (tx50 (d := s[k])) ?_) | (apply cx49; refine kl (tx49 (l := rpN s[k]) (r := row)) ?_) | refine k0 ?_ | refine jA fun _ => ?_ | refine jB fun _ => ?_ | refine kC (fun _ => ?_) fun _ => ?_ | (apply cx42; refine kl tx42 ?_) | (apply cx48; refine kl tx48 ?_) | (apply cx50; refine kl tx50 ?_) | (apply cx49; refine kl tx49 ?_) | refine jst ?_ | exact ⟨rfl, rfl⟩ | exact jV | fail))
      · have hg : 60 < (enB (rpN s[k]) row).length := by omega
        refine ⟨vB1 (bOf_y ⟨?_, .inr hg⟩), rfl⟩
        cases h : roOk (rpN s[k]) row
        · rw [enB_0 h] at hg; exact absurd hg (by simp)
        · rfl
      · refine ⟨vB0 (bOf_n fun q => ?_), rfl⟩
        obtain ⟨q0, ⟨j, hj, q⟩ | q⟩ := q
        · exact hi.2 j hj (by rw [koN_y q0]; exact q)
        · omega

theorem cx14 {P : Program} {X : FuncId → List Arg → List (Bool × List Cell) → List (Option (List Cell)) → Prop} {a : List Arg} {Q : List (Bool × List Cell) → List (Option (List Cell)) → Prop} (h : ∃ b vals outs, a = b ∧ D P X (.call 14 b vals outs) ∧ Q vals outs) : CallS P X 14 a Q := ⟨h⟩

set_option maxHeartbeats 2000000 in
set_option maxRecDepth 100000 in
theorem tx94 {s : List Df} {k : Nat} {row : List Vl} (hf : fbN s = -1 := by first | assumption | omega | (simp; done) | (simp; omega)) (hk : k < s.length := by first | assumption | omega | (simp; done) | (simp; omega)) (hs : zSc s ≤ 2000000 := by first | assumption | omega | (simp; done) | (simp; omega)) (hr : row.length ≤ 2000000 ∧ ∀ i (h : i < row.length), row[i].s.size ≤ 2000000 := by first | assumption | omega | (simp; done) | (simp; omega)) : T 94 [aE s, aI (k : Nat), aE row] [vB (lkN s[k] k row)] [none, none, none] := by
  refine w_call md [] Tryz.func94 rfl ?_
  have hs2 := zSc_b hs
  have hz := hs2.2 k hk
  have hr1 := hr.1
  obtain ⟨q1, q2, q3, q4, q5, q6⟩ := zDf_b hz
  have hX : T 124 [aE s, aI (k : Nat), aI (-1)] [vB true] [none, none, none] := by
    have h := tx124 (s := s) (t := k) (i := -1)
    rwa [hx_m hf hk] at h
  have hrl := rpN_len (d := s[k])
  have hel := enB_len (rpN s[k]) row
  have hR : T 92 [aE (rpN s[k]), aE row] [vB (roOk (rpN s[k]) row)] [none, none] := tx92
  cases hro : roOk (rpN s[k]) row
  · rw [hro] at hR
    repeat' ((conv => whnf); (first | (apply cx124; refine kl (hX) ?_) | refine And.intro ⟨by omega, by omega⟩ (Exists.intro _ (And.intro (rdI (i := k) (by omega) (by omega)) ?_)) | (apply cx93; refine kl (tx93 (d := s[k])) ?_) | (apply cx92; refine kl (hR) ?_) | refine k0 ?_ | refine jA fun _ => ?_ | refine jB fun _ => ?_ | refine kC (fun _ => ?_) fun _ => ?_ | (apply cx124; refine kl tx124 ?_) | (apply cx93; refine kl tx93 ?_) | (apply cx92; refine kl tx92 ?_) | (apply cx125; refine kl tx125 ?_) | (apply cx126; refine kl tx126 ?_) | refine jst ?_ | exact ⟨rfl, rfl⟩ | exact jV | fail))
    exact ⟨vB0 (bOf_n fun q => bft hro q.1), rfl⟩
  rw [hro] at hR
  repeat' ((conv => whnf); (first | (apply cx124; refine kl (hX) ?_) | refine And.intro ⟨by omega, by omega⟩ (Exists.intro _ (And.intro (rdI (i := k) (by omega) (by omega)) ?_)) | (apply cx93; refine kl (tx93 (d := s[k])) ?_) | (apply cx92; refine kl (hR) ?_) | refine k0 ?_ | refine jA fun _ => ?_ | refine jB fun _ => ?_ | refine kC (fun _ => ?_) fun _ => ?_ | (apply cx124; refine kl tx124 ?_) | (apply cx93; refine kl tx93 ?_) | (apply cx92; refine kl tx92 ?_) | (apply cx125; refine kl tx125 ?_) | (apply cx126; refine kl tx126 ?_) | refine jst ?_ | exact ⟨rfl, rfl⟩ | exact jV | fail))
  conv => whnf
  refine loopk (ι := Nat) (fun i => i ≤ s[k].idx.length + 1 ∧ ∀ j, j < i → ¬ 48 < (kyO s[k] k ((j : Int) - 1) row).length) (fun i => s[k].idx.length + 1 - i) (0) [0, 1, 2] (fun i => [(7, .v false [i6 ((i : Int) - 1)])]) [none, none, none] ?_
  refine ⟨⟨by omega, by intros; omega⟩, ?_, fun i hi => ?_⟩
  · exact jw []
  · repeat' ((conv => whnf); (first | refine And.intro ⟨by omega, by omega⟩ (Exists.intro _ (And.intro (rdI (i := k) (by omega) (by omega)) ?_)) | refine k0 ?_ | (apply cx124; refine kl tx124 ?_) | (apply cx93; refine kl tx93 ?_) | (apply cx92; refine kl tx92 ?_) | (apply cx125; refine kl tx125 ?_) | (apply cx126; refine kl tx126 ?_) | refine jst ?_ | exact ⟨rfl, rfl⟩ | exact jV | fail))
    conv => whnf
    refine ⟨fun hlt => ?_, fun hge => ?_⟩
    · have hi2 : i < s[k].idx.length + 1 := by omega
      have hx := hx_i hf hk hi2
      have hkl : (kyO s[k] k ((i : Int) - 1) row).length ≤ 416 := kyO_len
      repeat' ((conv => whnf); (first | (apply cx125; refine kl (tx125 (s := s) (k := k) (i := (i : Int) - 1) (row := row)) ?_) | refine k0 ?_ | refine jA fun _ => ?_ | refine jB fun _ => ?_ | refine kC (fun _ => ?_) fun _ => ?_ | (apply cx124; refine kl tx124 ?_) | (apply cx93; refine kl tx93 ?_) | (apply cx92; refine kl tx92 ?_) | (apply cx125; refine kl tx125 ?_) | (apply cx126; refine kl tx126 ?_) | refine jst ?_ | exact ⟨rfl, rfl⟩ | exact jV | fail))
      · exact ⟨vB1 (bOf_y ⟨hro, .inl ⟨i, hi2, by omega⟩⟩), rfl⟩
      · refine ⟨⟨i + 1, by omega, all_s hi.2 (by omega)⟩, by simp only; omega, ?_⟩
        exact jw []
    · obtain rfl : i = s[k].idx.length + 1 := by omega
      repeat' ((conv => whnf); (first | refine And.intro ⟨by omega, by omega⟩ (Exists.intro _ (And.intro (rdI (i := k) (by omega) (by omega)) ?_)) | (apply cx93; refine kl (tx93 (d := s[k])) ?_) | (apply cx126; refine kl (tx126 (l := rpN s[k]) (r := row)) ?_) | refine k0 ?_ | refine jA fun _ => ?_ | refine jB fun _ => ?_ | refine kC (fun _ => ?_) fun _ => ?_ | (apply cx124; refine kl tx124 ?_) | (apply cx93; refine kl tx93 ?_) | (apply cx92; refine kl tx92 ?_) | (apply cx125; refine kl tx125 ?_) | (apply cx126; refine kl tx126 ?_) | refine jst ?_ | exact ⟨rfl, rfl⟩ | exact jV | fail))
      · exact ⟨vB1 (bOf_y ⟨hro, .inr (by omega)⟩), rfl⟩
      · refine ⟨vB0 (bOf_n fun q => ?_), rfl⟩
        obtain ⟨_, ⟨j, hj, q⟩ | q⟩ := q
        · exact hi.2 j hj q
        · omega

theorem cx94 {P : Program} {X : FuncId → List Arg → List (Bool × List Cell) → List (Option (List Cell)) → Prop} {a : List Arg} {Q : List (Bool × List Cell) → List (Option (List Cell)) → Prop} (h : ∃ b vals outs, a = b ∧ D P X (.call 94 b vals outs) ∧ Q vals outs) : CallS P X 94 a Q := ⟨h⟩
end

end Go.Proofs.YtddikflnjloagaaGreatDoor
