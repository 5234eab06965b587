/- Functions of the program, each with what it gives back. -/
import Derived.Test.YtopnaijeicknoaaGreatDoorKe
import Derived.Test.YtopnaijeicknoaaGreatDoorChecked
import Derived.IntWalk
import Derived.Test.YtopnaijeicknoaaGreatDoorMq
namespace Go.Proofs.YtopnaijeicknoaaGreatDoor
open Go Go.RowKit Go.IntWalk
open Enc (sz cs)
attribute [local irreducible] IntKind.wrap

/-! ### Keys and rows as bytes -/
attribute [local irreducible] prtB vrB bOf ftV vlOk
noncomputable def kyN (l : List Prt) (r : List Vl) : Nat → List UInt8
  | 0 => []
  | i + 1 => kyN l r i ++ if h : i < l.length ∧ i < r.length then prtB l[i] r[i] else []
theorem kyN_s {l : List Prt} {r : List Vl} {i : Nat} (h1 : i < l.length) (h2 : i < r.length) : kyN l r (i + 1) = kyN l r i ++ prtB l[i] r[i] := by rw [kyN, dif_pos ⟨h1, h2⟩]
theorem FaOk.val {l : List Prt} {r : List Vl} (h : FaOk l r) {i : Nat} (hi : i < r.length) : r[i].s.size ≤ 30 ∧ (r[i].k = 0 ∨ r[i].k = 1 ∨ r[i].k = 2 ∨ r[i].k = 3 ∨ r[i].k = 4 ∧ 0 ≤ r[i].n ∧ r[i].n ≤ 1) :=
  vlOk_e (ftV_e (h.fit i hi (by have := h.len; omega))).1
theorem kyN_len {l : List Prt} {r : List Vl} (h : FaOk l r) : ∀ i, i ≤ r.length → (kyN l r i).length ≤ 69 * i
  | 0, _ => Nat.le_refl _
  | i + 1, hi => by
    have h1 := kyN_len h i (by omega)
    have h2 := h.val (i := i) (by omega)
    have h3 : i < l.length := by have := h.len; omega
    rw [kyN_s h3 (by omega), List.length_append]
    have := prtB_len (p := l[i]) (v := r[i]) (by omega)
    omega
noncomputable def kyB (l : List Prt) (r : List Vl) : List UInt8 := match plOk l && faOk l r with
  | true => kyN l r r.length
  | false => []
theorem kyB_0 {l : List Prt} {r : List Vl} (h : plOk l = false ∨ faOk l r = false) : kyB l r = [] := by
  unfold kyB
  rcases h with h | h
  · rw [h]; rfl
  · rw [h, Bool.and_false]
theorem kyB_1 {l : List Prt} {r : List Vl} (h : plOk l = true) (h2 : faOk l r = true) : kyB l r = kyN l r r.length := by unfold kyB; rw [h, h2]; rfl

set_option maxHeartbeats 2000000 in
set_option maxRecDepth 100000 in
theorem tx174 {l : List Prt} {r : List Vl} (hl : l.length ≤ 2000000 := by first | assumption | omega | (simp; done) | (simp; omega)) (hr : r.length ≤ 2000000 ∧ ∀ i (h : i < r.length), r[i].s.size ≤ 2000000 := by first | assumption | omega | (simp; done) | (simp; omega)) : T 174 [aE l, aE r] [vE (kyB l r)] [none, none] := by
  refine w_call md [[1]] Tryz.func174 rfl ?_
  have hP : T 125 [aE l] [vB (plOk l)] [none] := tx125
  have hF : T 126 [aE l, aE r] [vB (faOk l r)] [none, none] := tx126
  obtain ⟨hr1, hr2⟩ := hr
  cases h1 : plOk l
  · rw [h1] at hP
    rw [kyB_0 (.inl h1)]
    repeat' ((conv => whnf); (first | (apply cx125; refine kl (hP) ?_) | refine k0 ?_ | refine jA fun _ => ?_ | refine jB fun _ => ?_ | refine kC (fun _ => ?_) fun _ => ?_ | (apply cx125; refine kl tx125 ?_) | (apply cx126; refine kl tx126 ?_) | (apply cx185; refine kl tx185 ?_) | refine jst ?_ | exact ⟨rfl, rfl⟩ | exact jV | fail))
  cases h2 : faOk l r
  · rw [h1] at hP
    rw [h2] at hF
    rw [kyB_0 (.inr h2)]
    repeat' ((conv => whnf); (first | (apply cx125; refine kl (hP) ?_) | (apply cx126; refine kl (hF) ?_) | refine k0 ?_ | refine jA fun _ => ?_ | refine jB fun _ => ?_ | refine kC (fun _ => ?_) fun _ => ?_ | (apply cx125; refine kl tx125 ?_) | (apply cx126; refine kl tx126 ?_) | (apply cx185; refine kl tx185 ?_) | refine jst ?_ | exact ⟨rfl, rfl⟩ | exact jV | fail))
  rw [kyB_1 h1 h2]
  rw [h1] at hP
  rw [h2] at hF
  have hfa := bOf_t h2
  have hpl := bOf_t h1
  have hll := hpl.len
  have hle := hfa.len
  have hk := kyN_len hfa
  clear h1 h2
  repeat' ((conv => whnf); (first | (apply cx125; refine kl (hP) ?_) | (apply cx126; refine kl (hF) ?_) | refine k0 ?_ | refine jA fun _ => ?_ | refine jB fun _ => ?_ | refine kC (fun _ => ?_) fun _ => ?_ | (apply cx125; refine kl tx125 ?_) | (apply cx126; refine kl tx126 ?_) | (apply cx185; refine kl tx185 ?_) | refine jst ?_ | exact ⟨rfl, rfl⟩ | exact jV | fail))
  conv => whnf
  refine loopk (ι := Nat × List UInt8) (fun i => i.1 ≤ r.length ∧ i.2 = kyN l r i.1) (fun i => r.length - i.1) ((0, [])) [0, 17, 18] (fun i => [(5, rE 2 i.2), (19, .v false [i6 i.1])]) [none, none, some fun i => nE i.2] ?_
  refine ⟨⟨Nat.zero_le _, rfl⟩, ?_, fun ⟨i, o⟩ hi => ?_⟩
  · exact (w_virt 5 1 rfl rfl).trans (jw [])
  · dsimp only at hi ⊢
    have hn : o.length ≤ 69 * i := by rw [hi.2]; exact hk i hi.1
    repeat' ((conv => whnf); (first | refine k0 ?_ | (apply cx125; refine kl tx125 ?_) | (apply cx126; refine kl tx126 ?_) | (apply cx185; refine kl tx185 ?_) | refine jst ?_ | exact ⟨rfl, rfl⟩ | exact jV | fail))
    conv => whnf
    refine ⟨fun hlt => ?_, fun hge => ?_⟩
    · dsimp only at hlt
      have hi2 : i < r.length := by omega
      have hi3 : i < l.length := by omega
      have hv := hfa.val hi2
      repeat' ((conv => whnf); (first | (apply cx185; refine kl (tx185 (bs := o) (p := l[i]) (v := r[i])) ?_) | refine k0 ?_ | refine jA fun _ => ?_ | refine jB fun _ => ?_ | refine kC (fun _ => ?_) fun _ => ?_ | (apply cx125; refine kl tx125 ?_) | (apply cx126; refine kl tx126 ?_) | (apply cx185; refine kl tx185 ?_) | refine jst ?_ | exact ⟨rfl, rfl⟩ | exact jV | fail))
      refine ⟨⟨(i + 1, o ++ prtB l[i] r[i]), by simp only; omega, by simp only; rw [kyN_s hi3 hi2, hi.2]⟩, by simp only; omega, ?_⟩
      dsimp only
      exact jw []
    · dsimp only at hge
      obtain rfl : i = r.length := by omega
      repeat' ((conv => whnf); (first | refine k0 ?_ | refine jA fun _ => ?_ | refine jB fun _ => ?_ | refine kC (fun _ => ?_) fun _ => ?_ | (apply cx125; refine kl tx125 ?_) | (apply cx126; refine kl tx126 ?_) | (apply cx185; refine kl tx185 ?_) | refine jst ?_ | exact ⟨rfl, rfl⟩ | exact jV | fail))
      all_goals exact ⟨by rw [← hi.2], rfl⟩

theorem cx174 {P : Program} {X : FuncId → List Arg → List (Bool × List Cell) → List (Option (List Cell)) → Prop} {a : List Arg} {Q : List (Bool × List Cell) → List (Option (List Cell)) → Prop} (h : ∃ b vals outs, a = b ∧ D P X (.call 174 b vals outs) ∧ Q vals outs) : CallS P X 174 a Q := ⟨h⟩

set_option maxHeartbeats 2000000 in
set_option maxRecDepth 100000 in
theorem tx145 {l : List Prt} {r : List Vl} (hl : l.length ≤ 2000000 := by first | assumption | omega | (simp; done) | (simp; omega)) (hr : r.length ≤ 2000000 ∧ ∀ i (h : i < r.length), r[i].s.size ≤ 2000000 := by first | assumption | omega | (simp; done) | (simp; omega)) : T 145 [aE l, aE r] [vE (kyB l r)] [none, none] := by
  refine w_call md [] Tryz.func145 rfl ?_
  have hP : T 108 [aE l] [vB (plOk l)] [none] := tx108
  have hF : T 109 [aE l, aE r] [vB (faOk l r)] [none, none] := tx109
  obtain ⟨hr1, hr2⟩ := hr
  cases h1 : plOk l
  · rw [h1] at hP
    rw [kyB_0 (.inl h1)]
    repeat' ((conv => whnf); (first | (apply cx108; refine kl (hP) ?_) | refine k0 ?_ | refine jA fun _ => ?_ | refine jB fun _ => ?_ | refine kC (fun _ => ?_) fun _ => ?_ | (apply cx108; refine kl tx108 ?_) | (apply cx109; refine kl tx109 ?_) | (apply cx165; refine kl tx165 ?_) | refine jst ?_ | exact ⟨rfl, rfl⟩ | exact jV | fail))
  cases h2 : faOk l r
  · rw [h1] at hP
    rw [h2] at hF
    rw [kyB_0 (.inr h2)]
    repeat' ((conv => whnf); (first | (apply cx108; refine kl (hP) ?_) | (apply cx109; refine kl (hF) ?_) | refine k0 ?_ | refine jA fun _ => ?_ | refine jB fun _ => ?_ | refine kC (fun _ => ?_) fun _ => ?_ | (apply cx108; refine kl tx108 ?_) | (apply cx109; refine kl tx109 ?_) | (apply cx165; refine kl tx165 ?_) | refine jst ?_ | exact ⟨rfl, rfl⟩ | exact jV | fail))
  rw [kyB_1 h1 h2]
  rw [h1] at hP
  rw [h2] at hF
  have hfa := bOf_t h2
  have hpl := bOf_t h1
  have hll := hpl.len
  have hle := hfa.len
  have hk := kyN_len hfa
  clear h1 h2
  repeat' ((conv => whnf); (first | (apply cx108; refine kl (hP) ?_) | (apply cx109; refine kl (hF) ?_) | refine k0 ?_ | refine jA fun _ => ?_ | refine jB fun _ => ?_ | refine kC (fun _ => ?_) fun _ => ?_ | (apply cx108; refine kl tx108 ?_) | (apply cx109; refine kl tx109 ?_) | (apply cx165; refine kl tx165 ?_) | refine jst ?_ | exact ⟨rfl, rfl⟩ | exact jV | fail))
  conv => whnf
  refine loopk (ι := Nat × List UInt8) (fun i => i.1 ≤ r.length ∧ i.2 = kyN l r i.1) (fun i => r.length - i.1) ((0, [])) [0, 1] (fun i => [(5, rE 2 i.2), (6, .v false [i6 i.1])]) [none, none, some fun i => nE i.2] ?_
  refine ⟨⟨Nat.zero_le _, rfl⟩, ?_, fun ⟨i, o⟩ hi => ?_⟩
  · exact jw []
  · dsimp only at hi ⊢
    have hn : o.length ≤ 69 * i := by rw [hi.2]; exact hk i hi.1
    repeat' ((conv => whnf); (first | refine k0 ?_ | (apply cx108; refine kl tx108 ?_) | (apply cx109; refine kl tx109 ?_) | (apply cx165; refine kl tx165 ?_) | refine jst ?_ | exact ⟨rfl, rfl⟩ | exact jV | fail))
    conv => whnf
    refine ⟨fun hlt => ?_, fun hge => ?_⟩
    · dsimp only at hlt
      have hi2 : i < r.length := by omega
      have hi3 : i < l.length := by omega
      have hv := hfa.val hi2
      repeat' ((conv => whnf); (first | (apply cx165; refine kl (tx165 (bs := o) (p := l[i]) (v := r[i])) ?_) | refine k0 ?_ | refine jA fun _ => ?_ | refine jB fun _ => ?_ | refine kC (fun _ => ?_) fun _ => ?_ | (apply cx108; refine kl tx108 ?_) | (apply cx109; refine kl tx109 ?_) | (apply cx165; refine kl tx165 ?_) | refine jst ?_ | exact ⟨rfl, rfl⟩ | exact jV | fail))
      refine ⟨⟨(i + 1, o ++ prtB l[i] r[i]), by simp only; omega, by simp only; rw [kyN_s hi3 hi2, hi.2]⟩, by simp only; omega, ?_⟩
      dsimp only
      exact jw []
    · dsimp only at hge
      obtain rfl : i = r.length := by omega
      repeat' ((conv => whnf); (first | refine k0 ?_ | refine jA fun _ => ?_ | refine jB fun _ => ?_ | refine kC (fun _ => ?_) fun _ => ?_ | (apply cx108; refine kl tx108 ?_) | (apply cx109; refine kl tx109 ?_) | (apply cx165; refine kl tx165 ?_) | refine jst ?_ | exact ⟨rfl, rfl⟩ | exact jV | fail))
      all_goals exact ⟨by rw [← hi.2], rfl⟩

theorem cx145 {P : Program} {X : FuncId → List Arg → List (Bool × List Cell) → List (Option (List Cell)) → Prop} {a : List Arg} {Q : List (Bool × List Cell) → List (Option (List Cell)) → Prop} (h : ∃ b vals outs, a = b ∧ D P X (.call 145 b vals outs) ∧ Q vals outs) : CallS P X 145 a Q := ⟨h⟩

def rwV (v : Vl) : List UInt8 :=
  uenc (clN v.k) ++ if v.k = 1 ∨ v.k = 2 then vrB v.n else if v.k = 3 then uenc (clN (bl v.s).length) ++ bl v.s else if v.k = 4 then [UInt8.ofNat v.n.toNat] else []
theorem rwV_0 {v : Vl} (h : v.k = 0) : rwV v = uenc (clN v.k) := by unfold rwV; rw [if_neg (by omega), if_neg (by omega), if_neg (by omega), List.append_nil]
theorem rwV_1 {v : Vl} (h : v.k = 1 ∨ v.k = 2) : rwV v = uenc (clN v.k) ++ vrB v.n := by unfold rwV; rw [if_pos h]
theorem rwV_3 {v : Vl} (h : v.k = 3) : rwV v = uenc (clN v.k) ++ (uenc (clN (bl v.s).length) ++ bl v.s) := by unfold rwV; rw [if_neg (by omega), if_pos h]
theorem rwV_4 {v : Vl} {m : Nat} (h : v.k = 4) (hm : v.n = m) : rwV v = uenc (clN v.k) ++ [UInt8.ofNat m] := by unfold rwV; rw [if_neg (by omega), if_neg (by omega), if_pos h, hm]; rfl
theorem rwV_len {v : Vl} (h : v.s.size ≤ 2000000) : (rwV v).length ≤ v.s.size + 12 := by
  have h1 := uenc_len (clN_le v.k)
  have h2 := vrB_len v.n
  have h3 := uenc_len (clN_le (bl v.s).length)
  have h4 := bl_len v.s
  unfold rwV
  rw [List.length_append]
  split
  · omega
  split
  · rw [List.length_append]; omega
  split
  · simp; omega
  · simp; omega
def rwN (r : List Vl) : Nat → List UInt8
  | 0 => uenc (clN r.length)
  | i + 1 => rwN r i ++ if h : i < r.length then rwV r[i] else []
theorem rwN_s {r : List Vl} {i : Nat} (h : i < r.length) : rwN r (i + 1) = rwN r i ++ rwV r[i] := by rw [rwN, dif_pos h]
theorem rwN_len {r : List Vl} (h : ∀ i (h : i < r.length), r[i].s.size ≤ 30) : ∀ i, i ≤ r.length → (rwN r i).length ≤ 42 * i + 3
  | 0, _ => uenc_len (clN_le r.length)
  | i + 1, hi => by
    have h1 := rwN_len h i (by omega)
    have h2 := h i (by omega)
    rw [rwN_s (by omega), List.length_append]
    have := rwV_len (v := r[i]) (by omega)
    omega
noncomputable def enB (l : List Prt) (r : List Vl) : List UInt8 := match roOk l r with
  | true => ptS (rwN r r.length)
  | false => []
theorem enB_0 {l : List Prt} {r : List Vl} (h : roOk l r = false) : enB l r = [] := by unfold enB; rw [h]
theorem enB_1 {l : List Prt} {r : List Vl} (h : roOk l r = true) : enB l r = ptS (rwN r r.length) := by unfold enB; rw [h]
attribute [local irreducible] rwV

set_option maxHeartbeats 2000000 in
set_option maxRecDepth 100000 in
theorem tx129 {l : List Prt} {r : List Vl} (hl : l.length ≤ 2000000 := by first | assumption | omega | (simp; done) | (simp; omega)) (hr : r.length ≤ 2000000 ∧ ∀ i (h : i < r.length), r[i].s.size ≤ 2000000 := by first | assumption | omega | (simp; done) | (simp; omega)) : T 129 [aE l, aE r] [vE (enB l r)] [none, none] := by
  refine w_call md [[1]] Tryz.func129 rfl ?_
  have hR : T 77 [aE l, aE r] [vB (roOk l r)] [none, none] := tx77
  obtain ⟨hr1, hr2⟩ := hr
  cases h1 : roOk l r
  · rw [h1] at hR
    rw [enB_0 h1]
    repeat' ((conv => whnf); (first | (apply cx77; refine kl (hR) ?_) | refine k0 ?_ | refine jA fun _ => ?_ | refine jB fun _ => ?_ | refine kC (fun _ => ?_) fun _ => ?_ | (apply cx77; refine kl tx77 ?_) | (apply cx155; refine kl tx155 ?_) | (apply cx156; refine kl tx156 ?_) | (apply cx157; refine kl tx157 ?_) | (apply cx158; refine kl tx158 ?_) | refine jst ?_ | exact ⟨rfl, rfl⟩ | exact jV | fail))
  rw [enB_1 h1]
  rw [h1] at hR
  obtain ⟨q1, q2, q3⟩ := bOf_t h1
  have hfa := bOf_t q3
  have hpl := (bOf_t q1).len
  have hk := rwN_len fun i hi => (hfa.val hi).1
  have h0 : rwN r 0 = ptU [] r.length := rfl
  clear h1 q1 q3
  repeat' ((conv => whnf); (first | (apply cx77; refine kl (hR) ?_) | (apply cx155; refine kl (tx155 (bs := []) (n := r.length)) ?_) | refine k0 ?_ | refine jA fun _ => ?_ | refine jB fun _ => ?_ | refine kC (fun _ => ?_) fun _ => ?_ | (apply cx77; refine kl tx77 ?_) | (apply cx155; refine kl tx155 ?_) | (apply cx156; refine kl tx156 ?_) | (apply cx157; refine kl tx157 ?_) | (apply cx158; refine kl tx158 ?_) | refine jst ?_ | exact ⟨rfl, rfl⟩ | exact jV | fail))
  conv => whnf
  refine loopk (ι := Nat × List UInt8) (fun i => i.1 ≤ r.length ∧ i.2 = rwN r i.1) (fun i => r.length - i.1) ((0, ptU [] r.length)) [15, 16] (fun i => [(5, rE 2 i.2), (17, .v false [i6 i.1])]) [none, none, some fun i => nE i.2] ?_
  refine ⟨⟨Nat.zero_le _, rfl⟩, ?_, fun ⟨i, o⟩ hi => ?_⟩
  · exact jw []
  · dsimp only at hi ⊢
    have hn : o.length ≤ 42 * i + 3 := by rw [hi.2]; exact hk i hi.1
    repeat' ((conv => whnf); (first | refine k0 ?_ | (apply cx77; refine kl tx77 ?_) | (apply cx155; refine kl tx155 ?_) | (apply cx156; refine kl tx156 ?_) | (apply cx157; refine kl tx157 ?_) | (apply cx158; refine kl tx158 ?_) | refine jst ?_ | exact ⟨rfl, rfl⟩ | exact jV | fail))
    conv => whnf
    refine ⟨fun hlt => ?_, fun hge => ?_⟩
    · dsimp only at hlt
      have hi2 : i < r.length := by omega
      obtain ⟨hs, hv⟩ := hfa.val hi2
      have hs3 := bl_len r[i].s
      have hu1 := uenc_len (clN_le r[i].k)
      have hu2 := uenc_len (clN_le (bl r[i].s).length)
      have hw := vrB_len r[i].n
      have hst := rwN_s hi2
      rcases hv with hv | hv | hv | hv | ⟨hv, hn1, hn2⟩
      · have e : ptU o r[i].k = rwN r (i + 1) := by rw [hst, rwV_0 hv, hi.2]
        repeat' ((conv => whnf); (first | (apply cx155; refine kl (tx155 (bs := o) (n := r[i].k)) ?_) | refine k0 ?_ | refine jA fun _ => ?_ | refine jB fun _ => ?_ | refine kC (fun _ => ?_) fun _ => ?_ | (apply cx77; refine kl tx77 ?_) | (apply cx155; refine kl tx155 ?_) | (apply cx156; refine kl tx156 ?_) | (apply cx157; refine kl tx157 ?_) | (apply cx158; refine kl tx158 ?_) | refine jst ?_ | exact ⟨rfl, rfl⟩ | exact jV | fail))
        refine ⟨⟨(i + 1, ptU o r[i].k), by simp only; omega, e⟩, by simp only; omega, ?_⟩
        dsimp only
        exact jw []
      · have e : ptW (ptU o r[i].k) r[i].n = rwN r (i + 1) := by rw [hst, rwV_1 (.inl hv), hi.2]; simp
        repeat' ((conv => whnf); (first | (apply cx155; refine kl (tx155 (bs := o) (n := r[i].k)) ?_) | (apply cx156; refine kl (tx156 (bs := ptU o r[i].k) (n := r[i].n)) ?_) | refine k0 ?_ | refine jA fun _ => ?_ | refine jB fun _ => ?_ | refine kC (fun _ => ?_) fun _ => ?_ | (apply cx77; refine kl tx77 ?_) | (apply cx155; refine kl tx155 ?_) | (apply cx156; refine kl tx156 ?_) | (apply cx157; refine kl tx157 ?_) | (apply cx158; refine kl tx158 ?_) | refine jst ?_ | exact ⟨rfl, rfl⟩ | exact jV | fail))
        refine ⟨⟨(i + 1, ptW (ptU o r[i].k) r[i].n), by simp only; omega, e⟩, by simp only; omega, ?_⟩
        dsimp only
        exact jw []
      · have e : ptW (ptU o r[i].k) r[i].n = rwN r (i + 1) := by rw [hst, rwV_1 (.inr hv), hi.2]; simp
        repeat' ((conv => whnf); (first | (apply cx155; refine kl (tx155 (bs := o) (n := r[i].k)) ?_) | (apply cx156; refine kl (tx156 (bs := ptU o r[i].k) (n := r[i].n)) ?_) | refine k0 ?_ | refine jA fun _ => ?_ | refine jB fun _ => ?_ | refine kC (fun _ => ?_) fun _ => ?_ | (apply cx77; refine kl tx77 ?_) | (apply cx155; refine kl tx155 ?_) | (apply cx156; refine kl tx156 ?_) | (apply cx157; refine kl tx157 ?_) | (apply cx158; refine kl tx158 ?_) | refine jst ?_ | exact ⟨rfl, rfl⟩ | exact jV | fail))
        refine ⟨⟨(i + 1, ptW (ptU o r[i].k) r[i].n), by simp only; omega, e⟩, by simp only; omega, ?_⟩
        dsimp only
        exact jw []
      · have e : ptT (ptU o r[i].k) (bl r[i].s) = rwN r (i + 1) := by rw [hst, rwV_3 hv, hi.2]; simp
        repeat' ((conv => whnf); (first | (apply cx155; refine kl (tx155 (bs := o) (n := r[i].k)) ?_) | (apply cx157; refine kl (tx157 (bs := ptU o r[i].k) (s := r[i].s)) ?_) | refine k0 ?_ | refine jA fun _ => ?_ | refine jB fun _ => ?_ | refine kC (fun _ => ?_) fun _ => ?_ | (apply cx77; refine kl tx77 ?_) | (apply cx155; refine kl tx155 ?_) | (apply cx156; refine kl tx156 ?_) | (apply cx157; refine kl tx157 ?_) | (apply cx158; refine kl tx158 ?_) | refine jst ?_ | exact ⟨rfl, rfl⟩ | exact jV | fail))
        refine ⟨⟨(i + 1, ptT (ptU o r[i].k) (bl r[i].s)), by simp only; omega, e⟩, by simp only; omega, ?_⟩
        dsimp only
        exact jw []
      · obtain ⟨m, hm⟩ : ∃ m : Nat, r[i].n = m := ⟨r[i].n.toNat, by omega⟩
        have e : ptU o r[i].k ++ [UInt8.ofNat m] = rwN r (i + 1) := by rw [hst, rwV_4 hv hm, hi.2]; simp
        repeat' ((conv => whnf); (first | (apply cx155; refine kl (tx155 (bs := o) (n := r[i].k)) ?_) | refine Exists.intro _ (And.intro ((congrArg _ hm).trans (u8n _)) ?_) | refine jap (apB ?_) | refine k0 ?_ | refine jA fun _ => ?_ | refine jB fun _ => ?_ | refine kC (fun _ => ?_) fun _ => ?_ | (apply cx77; refine kl tx77 ?_) | (apply cx155; refine kl tx155 ?_) | (apply cx156; refine kl tx156 ?_) | (apply cx157; refine kl tx157 ?_) | (apply cx158; refine kl tx158 ?_) | refine jst ?_ | exact ⟨rfl, rfl⟩ | exact jV | fail))
        refine ⟨⟨(i + 1, ptU o r[i].k ++ [UInt8.ofNat m]), by simp only; omega, e⟩, by simp only; omega, ?_⟩
        dsimp only
        exact jw []
    · dsimp only at hge
      obtain rfl : i = r.length := by omega
      repeat' ((conv => whnf); (first | refine k0 ?_ | refine jA fun _ => ?_ | refine jB fun _ => ?_ | refine kC (fun _ => ?_) fun _ => ?_ | (apply cx77; refine kl tx77 ?_) | (apply cx155; refine kl tx155 ?_) | (apply cx156; refine kl tx156 ?_) | (apply cx157; refine kl tx157 ?_) | (apply cx158; refine kl tx158 ?_) | refine jst ?_ | exact ⟨rfl, rfl⟩ | exact jV | fail))
      all_goals exact ⟨by rw [← hi.2], rfl⟩

theorem cx129 {P : Program} {X : FuncId → List Arg → List (Bool × List Cell) → List (Option (List Cell)) → Prop} {a : List Arg} {Q : List (Bool × List Cell) → List (Option (List Cell)) → Prop} (h : ∃ b vals outs, a = b ∧ D P X (.call 129 b vals outs) ∧ Q vals outs) : CallS P X 129 a Q := ⟨h⟩

set_option maxHeartbeats 2000000 in
set_option maxRecDepth 100000 in
theorem tx113 {l : List Prt} {r : List Vl} (hl : l.length ≤ 2000000 := by first | assumption | omega | (simp; done) | (simp; omega)) (hr : r.length ≤ 2000000 ∧ ∀ i (h : i < r.length), r[i].s.size ≤ 2000000 := by first | assumption | omega | (simp; done) | (simp; omega)) : T 113 [aE l, aE r] [vE (enB l r)] [none, none] := by
  refine w_call md [] Tryz.func113 rfl ?_
  have hR : T 65 [aE l, aE r] [vB (roOk l r)] [none, none] := tx65
  obtain ⟨hr1, hr2⟩ := hr
  cases h1 : roOk l r
  · rw [h1] at hR
    rw [enB_0 h1]
    repeat' ((conv => whnf); (first | (apply cx65; refine kl (hR) ?_) | refine k0 ?_ | refine jA fun _ => ?_ | refine jB fun _ => ?_ | refine kC (fun _ => ?_) fun _ => ?_ | (apply cx65; refine kl tx65 ?_) | (apply cx146; refine kl tx146 ?_) | (apply cx147; refine kl tx147 ?_) | (apply cx148; refine kl tx148 ?_) | (apply cx149; refine kl tx149 ?_) | refine jst ?_ | exact ⟨rfl, rfl⟩ | exact jV | fail))
  rw [enB_1 h1]
  rw [h1] at hR
  obtain ⟨q1, q2, q3⟩ := bOf_t h1
  have hfa := bOf_t q3
  have hpl := (bOf_t q1).len
  have hk := rwN_len fun i hi => (hfa.val hi).1
  have h0 : rwN r 0 = ptU [] r.length := rfl
  clear h1 q1 q3
  repeat' ((conv => whnf); (first | (apply cx65; refine kl (hR) ?_) | (apply cx146; refine kl (tx146 (bs := []) (n := r.length)) ?_) | refine k0 ?_ | refine jA fun _ => ?_ | refine jB fun _ => ?_ | refine kC (fun _ => ?_) fun _ => ?_ | (apply cx65; refine kl tx65 ?_) | (apply cx146; refine kl tx146 ?_) | (apply cx147; refine kl tx147 ?_) | (apply cx148; refine kl tx148 ?_) | (apply cx149; refine kl tx149 ?_) | refine jst ?_ | exact ⟨rfl, rfl⟩ | exact jV | fail))
  conv => whnf
  refine loopk (ι := Nat × List UInt8) (fun i => i.1 ≤ r.length ∧ i.2 = rwN r i.1) (fun i => r.length - i.1) ((0, ptU [] r.length)) [1] (fun i => [(5, rE 2 i.2), (6, .v false [i6 i.1])]) [none, none, some fun i => nE i.2] ?_
  refine ⟨⟨Nat.zero_le _, rfl⟩, ?_, fun ⟨i, o⟩ hi => ?_⟩
  · exact jw []
  · dsimp only at hi ⊢
    have hn : o.length ≤ 42 * i + 3 := by rw [hi.2]; exact hk i hi.1
    repeat' ((conv => whnf); (first | refine k0 ?_ | (apply cx65; refine kl tx65 ?_) | (apply cx146; refine kl tx146 ?_) | (apply cx147; refine kl tx147 ?_) | (apply cx148; refine kl tx148 ?_) | (apply cx149; refine kl tx149 ?_) | refine jst ?_ | exact ⟨rfl, rfl⟩ | exact jV | fail))
    conv => whnf
    refine ⟨fun hlt => ?_, fun hge => ?_⟩
    · dsimp only at hlt
      have hi2 : i < r.length := by omega
      obtain ⟨hs, hv⟩ := hfa.val hi2
      have hs3 := bl_len r[i].s
      have hu1 := uenc_len (clN_le r[i].k)
      have hu2 := uenc_len (clN_le (bl r[i].s).length)
      have hw := vrB_len r[i].n
      have hst := rwN_s hi2
      rcases hv with hv | hv | hv | hv | ⟨hv, hn1, hn2⟩
      · have e : ptU o r[i].k = rwN r (i + 1) := by rw [hst, rwV_0 hv, hi.2]
        repeat' ((conv => whnf); (first | (apply cx146; refine kl (tx146 (bs := o) (n := r[i].k)) ?_) | refine k0 ?_ | refine jA fun _ => ?_ | refine jB fun _ => ?_ | refine kC (fun _ => ?_) fun _ => ?_ | (apply cx65; refine kl tx65 ?_) | (apply cx146; refine kl tx146 ?_) | (apply cx147; refine kl tx147 ?_) | (apply cx148; refine kl tx148 ?_) | (apply cx149; refine kl tx149 ?_) | refine jst ?_ | exact ⟨rfl, rfl⟩ | exact jV | fail))
        refine ⟨⟨(i + 1, ptU o r[i].k), by simp only; omega, e⟩, by simp only; omega, ?_⟩
        dsimp only
        exact jw []
      · have e : ptW (ptU o r[i].k) r[i].n = rwN r (i + 1) := by rw [hst, rwV_1 (.inl hv), hi.2]; simp
        repeat' ((conv => whnf); (first | (apply cx146; refine kl (tx146 (bs := o) (n := r[i].k)) ?_) | (apply cx147; refine kl (tx147 (bs := ptU o r[i].k) (n := r[i].n)) ?_) | refine k0 ?_ | refine jA fun _ => ?_ | refine jB fun _ => ?_ | refine kC (fun _ => ?_) fun _ => ?_ | (apply cx65; refine kl tx65 ?_) | (apply cx146; refine kl tx146 ?_) | (apply cx147; refine kl tx147 ?_) | (apply cx148; refine kl tx148 ?_) | (apply cx149; refine kl tx149 ?_) | refine jst ?_ | exact ⟨rfl, rfl⟩ | exact jV | fail))
        refine ⟨⟨(i + 1, ptW (ptU o r[i].k) r[i].n), by simp only; omega, e⟩, by simp only; omega, ?_⟩
        dsimp only
        exact jw []
      · have e : ptW (ptU o r[i].k) r[i].n = rwN r (i + 1) := by rw [hst, rwV_1 (.inr hv), hi.2]; simp
        repeat' ((conv => whnf); (first | (apply cx146; refine kl (tx146 (bs := o) (n := r[i].k)) ?_) | (apply cx147; refine kl (tx147 (bs := ptU o r[i].k) (n := r[i].n)) ?_) | refine k0 ?_ | refine jA fun _ => ?_ | refine jB fun _ => ?_ | refine kC (fun _ => ?_) fun _ => ?_ | (apply cx65; refine kl tx65 ?_) | (apply cx146; refine kl tx146 ?_) | (apply cx147; refine kl tx147 ?_) | (apply cx148; refine kl tx148 ?_) | (apply cx149; refine kl tx149 ?_) | refine jst ?_ | exact ⟨rfl, rfl⟩ | exact jV | fail))
        refine ⟨⟨(i + 1, ptW (ptU o r[i].k) r[i].n), by simp only; omega, e⟩, by simp only; omega, ?_⟩
        dsimp only
        exact jw []
      · have e : ptT (ptU o r[i].k) (bl r[i].s) = rwN r (i + 1) := by rw [hst, rwV_3 hv, hi.2]; simp
        repeat' ((conv => whnf); (first | (apply cx146; refine kl (tx146 (bs := o) (n := r[i].k)) ?_) | (apply cx148; refine kl (tx148 (bs := ptU o r[i].k) (s := r[i].s)) ?_) | refine k0 ?_ | refine jA fun _ => ?_ | refine jB fun _ => ?_ | refine kC (fun _ => ?_) fun _ => ?_ | (apply cx65; refine kl tx65 ?_) | (apply cx146; refine kl tx146 ?_) | (apply cx147; refine kl tx147 ?_) | (apply cx148; refine kl tx148 ?_) | (apply cx149; refine kl tx149 ?_) | refine jst ?_ | exact ⟨rfl, rfl⟩ | exact jV | fail))
        refine ⟨⟨(i + 1, ptT (ptU o r[i].k) (bl r[i].s)), by simp only; omega, e⟩, by simp only; omega, ?_⟩
        dsimp only
        exact jw []
      · obtain ⟨m, hm⟩ : ∃ m : Nat, r[i].n = m := ⟨r[i].n.toNat, by omega⟩
        have e : ptU o r[i].k ++ [UInt8.ofNat m] = rwN r (i + 1) := by rw [hst, rwV_4 hv hm, hi.2]; simp
        repeat' ((conv => whnf); (first | (apply cx146; refine kl (tx146 (bs := o) (n := r[i].k)) ?_) | refine Exists.intro _ (And.intro ((congrArg _ hm).trans (u8n _)) ?_) | refine jap (apB ?_) | refine k0 ?_ | refine jA fun _ => ?_ | refine jB fun _ => ?_ | refine kC (fun _ => ?_) fun _ => ?_ | (apply cx65; refine kl tx65 ?_) | (apply cx146; refine kl tx146 ?_) | (apply cx147; refine kl tx147 ?_) | (apply cx148; refine kl tx148 ?_) | (apply cx149; refine kl tx149 ?_) | refine jst ?_ | exact ⟨rfl, rfl⟩ | exact jV | fail))
        refine ⟨⟨(i + 1, ptU o r[i].k ++ [UInt8.ofNat m]), by simp only; omega, e⟩, by simp only; omega, ?_⟩
        dsimp only
        exact jw []
    · dsimp only at hge
      obtain rfl : i = r.length := by omega
      repeat' ((conv => whnf); (first | refine k0 ?_ | refine jA fun _ => ?_ | refine jB fun _ => ?_ | refine kC (fun _ => ?_) fun _ => ?_ | (apply cx65; refine kl tx65 ?_) | (apply cx146; refine kl tx146 ?_) | (apply cx147; refine kl tx147 ?_) | (apply cx148; refine kl tx148 ?_) | (apply cx149; refine kl tx149 ?_) | refine jst ?_ | exact ⟨rfl, rfl⟩ | exact jV | fail))
      all_goals exact ⟨by rw [← hi.2], rfl⟩

theorem cx113 {P : Program} {X : FuncId → List Arg → List (Bool × List Cell) → List (Option (List Cell)) → Prop} {a : List Arg} {Q : List (Bool × List Cell) → List (Option (List Cell)) → Prop} (h : ∃ b vals outs, a = b ∧ D P X (.call 113 b vals outs) ∧ Q vals outs) : CallS P X 113 a Q := ⟨h⟩

end Go.Proofs.YtopnaijeicknoaaGreatDoor
