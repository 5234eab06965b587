/- Functions of the program, each with what it gives back. -/
import Derived.Test.YtopnaijeicknoaaGreatDoorKe
import Derived.Test.YtopnaijeicknoaaGreatDoorChecked
import Derived.IntWalk
import Derived.Test.YtopnaijeicknoaaGreatDoorFa
namespace Go.Proofs.YtopnaijeicknoaaGreatDoor
open Go Go.RowKit Go.IntWalk
open Enc (sz cs)
attribute [local irreducible] IntKind.wrap

/-! ### Names -/
abbrev wrds : List ByteArray := [⟨#[116, 97, 98, 108, 101]⟩, ⟨#[112, 114, 105, 109, 97, 114, 121]⟩, ⟨#[117, 110, 105, 113, 117, 101]⟩, ⟨#[105, 110, 100, 101, 120]⟩, ⟨#[110, 117, 108, 108]⟩, ⟨#[100, 101, 115, 99]⟩, ⟨#[105, 110, 116]⟩, ⟨#[110, 117, 109]⟩, ⟨#[116, 101, 120, 116]⟩, ⟨#[98, 111, 111, 108]⟩]
abbrev NmC (s : ByteArray) (i : Nat) (h : i < s.size) : Prop := (97 ≤ s[i].toNat ∧ s[i].toNat ≤ 122) ∨ (0 < i ∧ 48 ≤ s[i].toNat ∧ s[i].toNat ≤ 57)
structure NmOk (s : ByteArray) : Prop where
  len : 1 ≤ s.size ∧ s.size ≤ 8
  chr : ∀ i (h : i < s.size), NmC s i h
open Classical in
noncomputable def nmOk (s : ByteArray) : Bool := decide (NmOk s)
theorem nmOk_y {s : ByteArray} (h : NmOk s) : nmOk s = true := by unfold nmOk; simp [h]
theorem nmOk_n {s : ByteArray} (h : ¬ NmOk s) : nmOk s = false := by unfold nmOk; simp [h]
open Classical in
/-- A name that is free. -/
noncomputable def frOk (s : ByteArray) : Bool := nmOk s && decide (s ∉ wrds)
theorem frOk_w {s : ByteArray} (h : s ∈ wrds) : frOk s = false := by unfold frOk; simp [h]
theorem frOk_f {s : ByteArray} (h : s ∉ wrds) : frOk s = nmOk s := by unfold frOk; simp [h]
theorem sgt {s : ByteArray} {i : Nat} (h : i < s.size) : s.data.toList[((i : Nat) : Int).toNat]? = some s[i] := by
  rw [Int.toNat_natCast, Array.getElem?_toList, Array.getElem?_eq_getElem h]; rfl
theorem nmOk_c {s : ByteArray} {i : Nat} (h : i < s.size) (hc : ¬ NmC s i h) : nmOk s = false := nmOk_n fun q => hc (q.chr i h)

theorem tx169 : T 169 [aS ⟨#[116, 97, 98, 108, 101, 32, 112, 114, 105, 109, 97, 114, 121, 32, 117, 110, 105, 113, 117, 101, 32, 105, 110, 100, 101, 120, 32, 110, 117, 108, 108, 32, 100, 101, 115, 99, 32, 105, 110, 116, 32, 110, 117, 109, 32, 116, 101, 120, 116, 32, 98, 111, 111, 108]⟩, aS ⟨#[32]⟩] [vE wrds] [none, none] := .ext ⟨rfl, rfl, rfl, rfl⟩
theorem cx169 {P : Program} {X : FuncId → List Arg → List (Bool × List Cell) → List (Option (List Cell)) → Prop} {a : List Arg} {Q : List (Bool × List Cell) → List (Option (List Cell)) → Prop} (h : ∃ b vals outs, a = b ∧ D P X (.call 169 b vals outs) ∧ Q vals outs) : CallS P X 169 a Q := ⟨h⟩

abbrev aU (c : UInt8) : Arg := .val false [.prim (.int .u8 (c.toNat : Int))]
abbrev isL (c : UInt8) : Bool := decide (97 ≤ c.toNat ∧ c.toNat ≤ 122)
abbrev isD (c : UInt8) : Bool := decide (48 ≤ c.toNat ∧ c.toNat ≤ 57)

set_option maxRecDepth 100000 in
theorem tx183 {c : UInt8} : T 183 [aU c] [vB (isL c)] [none] := by
  refine w_call md [] Tryz.func183 rfl ?_
  repeat' ((conv => whnf); (first | refine k0 ?_ | refine jA fun _ => ?_ | refine jB fun _ => ?_ | refine kC (fun _ => ?_) fun _ => ?_ | refine jst ?_ | exact ⟨rfl, rfl⟩ | exact jV | fail))
  all_goals exact ⟨by simp only [isL]; first | rw [decide_eq_true (by omega)] | rw [decide_eq_false (by omega)], rfl⟩

theorem cx183 {P : Program} {X : FuncId → List Arg → List (Bool × List Cell) → List (Option (List Cell)) → Prop} {a : List Arg} {Q : List (Bool × List Cell) → List (Option (List Cell)) → Prop} (h : ∃ b vals outs, a = b ∧ D P X (.call 183 b vals outs) ∧ Q vals outs) : CallS P X 183 a Q := ⟨h⟩

set_option maxRecDepth 100000 in
theorem tx184 {c : UInt8} : T 184 [aU c] [vB (isD c)] [none] := by
  refine w_call md [] Tryz.func184 rfl ?_
  repeat' ((conv => whnf); (first | refine k0 ?_ | refine jA fun _ => ?_ | refine jB fun _ => ?_ | refine kC (fun _ => ?_) fun _ => ?_ | refine jst ?_ | exact ⟨rfl, rfl⟩ | exact jV | fail))
  all_goals exact ⟨by simp only [isD]; first | rw [decide_eq_true (by omega)] | rw [decide_eq_false (by omega)], rfl⟩

theorem cx184 {P : Program} {X : FuncId → List Arg → List (Bool × List Cell) → List (Option (List Cell)) → Prop} {a : List Arg} {Q : List (Bool × List Cell) → List (Option (List Cell)) → Prop} (h : ∃ b vals outs, a = b ∧ D P X (.call 184 b vals outs) ∧ Q vals outs) : CallS P X 184 a Q := ⟨h⟩

set_option maxRecDepth 100000 in
theorem tx179 {c : UInt8} : T 179 [aU c] [vB (isL c)] [none] := by
  refine w_call md [] Tryz.func179 rfl ?_
  have hu := UInt8.toNat_lt c
  have h : inB (c.toNat : Int) 97 122 = isL c := by
    simp only [inB, isL]
    by_cases h : 97 ≤ c.toNat ∧ c.toNat ≤ 122
    · rw [decide_eq_true h]; simp; omega
    · rw [decide_eq_false h]; simp; omega
  repeat' ((conv => whnf); (first | refine k0 ?_ | refine jA fun _ => ?_ | refine jB fun _ => ?_ | refine kC (fun _ => ?_) fun _ => ?_ | (apply cx88; refine kl tx88 ?_) | refine jst ?_ | exact ⟨rfl, rfl⟩ | exact jV | fail))
  all_goals exact ⟨by rw [← h, ‹inB _ _ _ = _›], rfl⟩

theorem cx179 {P : Program} {X : FuncId → List Arg → List (Bool × List Cell) → List (Option (List Cell)) → Prop} {a : List Arg} {Q : List (Bool × List Cell) → List (Option (List Cell)) → Prop} (h : ∃ b vals outs, a = b ∧ D P X (.call 179 b vals outs) ∧ Q vals outs) : CallS P X 179 a Q := ⟨h⟩

set_option maxRecDepth 100000 in
theorem tx180 {c : UInt8} : T 180 [aU c] [vB (isD c)] [none] := by
  refine w_call md [] Tryz.func180 rfl ?_
  have hu := UInt8.toNat_lt c
  have h : inB (c.toNat : Int) 48 57 = isD c := by
    simp only [inB, isD]
    by_cases h : 48 ≤ c.toNat ∧ c.toNat ≤ 57
    · rw [decide_eq_true h]; simp; omega
    · rw [decide_eq_false h]; simp; omega
  repeat' ((conv => whnf); (first | refine k0 ?_ | refine jA fun _ => ?_ | refine jB fun _ => ?_ | refine kC (fun _ => ?_) fun _ => ?_ | (apply cx88; refine kl tx88 ?_) | refine jst ?_ | exact ⟨rfl, rfl⟩ | exact jV | fail))
  all_goals exact ⟨by rw [← h, ‹inB _ _ _ = _›], rfl⟩

theorem cx180 {P : Program} {X : FuncId → List Arg → List (Bool × List Cell) → List (Option (List Cell)) → Prop} {a : List Arg} {Q : List (Bool × List Cell) → List (Option (List Cell)) → Prop} (h : ∃ b vals outs, a = b ∧ D P X (.call 180 b vals outs) ∧ Q vals outs) : CallS P X 180 a Q := ⟨h⟩

set_option maxRecDepth 100000 in
theorem tx170 {s : ByteArray} (hs : s.size ≤ 2000000 := by first | assumption | omega | (simp; done) | (simp; omega)) : T 170 [aS s] [vB (nmOk s)] [none] := by
  refine w_call md [] Tryz.func170 rfl ?_
  repeat' ((conv => whnf); (first | refine k0 ?_ | refine jA fun _ => ?_ | refine jB fun _ => ?_ | refine kC (fun _ => ?_) fun _ => ?_ | (apply cx183; refine kl tx183 ?_) | (apply cx184; refine kl tx184 ?_) | (apply cx48; refine kl tx48 ?_) | refine jst ?_ | exact ⟨rfl, rfl⟩ | exact jV | fail))
  conv => whnf
  refine loopk (ι := Nat) (fun i => i ≤ s.size ∧ ∀ j (h : j < s.size), j < i → NmC s j h) (fun i => s.size - i) (0) [0] (fun i => [(3, .v false [i6 i])]) [none] ?_
  refine ⟨⟨by omega, by intros; omega⟩, ?_, fun i hi => ?_⟩
  · exact jw []
  · repeat' ((conv => whnf); (first | refine k0 ?_ | (apply cx183; refine kl tx183 ?_) | (apply cx184; refine kl tx184 ?_) | (apply cx48; refine kl tx48 ?_) | refine jst ?_ | exact ⟨rfl, rfl⟩ | exact jV | fail))
    conv => whnf
    refine ⟨fun hlt => ?_, fun hge => ?_⟩
    · have hi2 : i < s.size := by omega
      repeat' ((conv => whnf); (first | (apply cx183; refine kl (tx183 (c := s[i])) ?_) | (apply cx184; refine kl (tx184 (c := s[i])) ?_) | refine And.intro (by omega) (Exists.intro s[i] (And.intro (sgt hi2) ?_)) | refine k0 ?_ | refine jA fun _ => ?_ | refine jB fun _ => ?_ | refine kC (fun _ => ?_) fun _ => ?_ | (apply cx183; refine kl tx183 ?_) | (apply cx184; refine kl tx184 ?_) | (apply cx48; refine kl tx48 ?_) | refine jst ?_ | exact ⟨rfl, rfl⟩ | exact jV | fail))
      · refine ⟨⟨i + 1, by omega, all_suc hi.2 hi2 (.inl (of_decide_eq_true ‹isL _ = true›))⟩, by simp only; omega, ?_⟩
        exact jw []
      · have hl := of_decide_eq_false ‹isL _ = false›
        exact ⟨by rw [nmOk_c hi2 (fun q => q.elim hl fun q => absurd q.1 (by omega))], rfl⟩
      · have hd := of_decide_eq_true ‹isD _ = true›
        refine ⟨⟨i + 1, by omega, all_suc hi.2 hi2 (.inr ⟨by omega, hd⟩)⟩, by simp only; omega, ?_⟩
        exact jw []
      · have hl := of_decide_eq_false ‹isL _ = false›
        have hd := of_decide_eq_false ‹isD _ = false›
        exact ⟨by rw [nmOk_c hi2 (fun q => q.elim hl fun q => hd q.2)], rfl⟩
    · obtain rfl : i = s.size := by omega
      have hl : inB (s.size : Int) 1 8 = nmOk s := by
        by_cases h : 1 ≤ s.size ∧ s.size ≤ 8
        · rw [nmOk_y ⟨h, fun j hj => hi.2 j hj hj⟩, inB_iff]; omega
        · rw [nmOk_n fun q => h q.len, inB_no]; omega
      repeat' ((conv => whnf); (first | refine k0 ?_ | refine jA fun _ => ?_ | refine jB fun _ => ?_ | refine kC (fun _ => ?_) fun _ => ?_ | (apply cx183; refine kl tx183 ?_) | (apply cx184; refine kl tx184 ?_) | (apply cx48; refine kl tx48 ?_) | refine jst ?_ | exact ⟨rfl, rfl⟩ | exact jV | fail))
      all_goals exact ⟨by rw [← hl, ‹inB _ _ _ = _›], rfl⟩

theorem cx170 {P : Program} {X : FuncId → List Arg → List (Bool × List Cell) → List (Option (List Cell)) → Prop} {a : List Arg} {Q : List (Bool × List Cell) → List (Option (List Cell)) → Prop} (h : ∃ b vals outs, a = b ∧ D P X (.call 170 b vals outs) ∧ Q vals outs) : CallS P X 170 a Q := ⟨h⟩

set_option maxRecDepth 100000 in
theorem tx161 {s : ByteArray} (hs : s.size ≤ 2000000 := by first | assumption | omega | (simp; done) | (simp; omega)) : T 161 [aS s] [vB (nmOk s)] [none] := by
  refine w_call md [] Tryz.func161 rfl ?_
  repeat' ((conv => whnf); (first | refine k0 ?_ | refine jA fun _ => ?_ | refine jB fun _ => ?_ | refine kC (fun _ => ?_) fun _ => ?_ | (apply cx179; refine kl tx179 ?_) | (apply cx180; refine kl tx180 ?_) | (apply cx88; refine kl tx88 ?_) | refine jst ?_ | exact ⟨rfl, rfl⟩ | exact jV | fail))
  conv => whnf
  refine loopk (ι := Nat) (fun i => i ≤ s.size ∧ ∀ j (h : j < s.size), j < i → NmC s j h) (fun i => s.size - i) (0) [0] (fun i => [(3, .v false [i6 i])]) [none] ?_
  refine ⟨⟨by omega, by intros; omega⟩, ?_, fun i hi => ?_⟩
  · exact jw []
  · repeat' ((conv => whnf); (first | refine k0 ?_ | (apply cx179; refine kl tx179 ?_) | (apply cx180; refine kl tx180 ?_) | (apply cx88; refine kl tx88 ?_) | refine jst ?_ | exact ⟨rfl, rfl⟩ | exact jV | fail))
    conv => whnf
    refine ⟨fun hlt => ?_, fun hge => ?_⟩
    · have hi2 : i < s.size := by omega
      repeat' ((conv => whnf); (first | (apply cx179; refine kl (tx179 (c := s[i])) ?_) | (apply cx180; refine kl (tx180 (c := s[i])) ?_) | refine And.intro (by omega) (Exists.intro s[i] (And.intro (sgt hi2) ?_)) | refine k0 ?_ | refine jA fun _ => ?_ | refine jB fun _ => ?_ | refine kC (fun _ => ?_) fun _ => ?_ | (apply cx179; refine kl tx179 ?_) | (apply cx180; refine kl tx180 ?_) | (apply cx88; refine kl tx88 ?_) | refine jst ?_ | exact ⟨rfl, rfl⟩ | exact jV | fail))
      · refine ⟨⟨i + 1, by omega, all_suc hi.2 hi2 (.inl (of_decide_eq_true ‹isL _ = true›))⟩, by simp only; omega, ?_⟩
        exact jw []
      · have hl := of_decide_eq_false ‹isL _ = false›
        exact ⟨by rw [nmOk_c hi2 (fun q => q.elim hl fun q => absurd q.1 (by omega))], rfl⟩
      · have hd := of_decide_eq_true ‹isD _ = true›
        refine ⟨⟨i + 1, by omega, all_suc hi.2 hi2 (.inr ⟨by omega, hd⟩)⟩, by simp only; omega, ?_⟩
        exact jw []
      · have hl := of_decide_eq_false ‹isL _ = false›
        have hd := of_decide_eq_false ‹isD _ = false›
        exact ⟨by rw [nmOk_c hi2 (fun q => q.elim hl fun q => hd q.2)], rfl⟩
    · obtain rfl : i = s.size := by omega
      have hl : inB (s.size : Int) 1 8 = nmOk s := by
        by_cases h : 1 ≤ s.size ∧ s.size ≤ 8
        · rw [nmOk_y ⟨h, fun j hj => hi.2 j hj hj⟩, inB_iff]; omega
        · rw [nmOk_n fun q => h q.len, inB_no]; omega
      repeat' ((conv => whnf); (first | refine k0 ?_ | refine jA fun _ => ?_ | refine jB fun _ => ?_ | refine kC (fun _ => ?_) fun _ => ?_ | (apply cx179; refine kl tx179 ?_) | (apply cx180; refine kl tx180 ?_) | (apply cx88; refine kl tx88 ?_) | refine jst ?_ | exact ⟨rfl, rfl⟩ | exact jV | fail))
      all_goals exact ⟨by rw [← hl, ‹inB _ _ _ = _›], rfl⟩

theorem cx161 {P : Program} {X : FuncId → List Arg → List (Bool × List Cell) → List (Option (List Cell)) → Prop} {a : List Arg} {Q : List (Bool × List Cell) → List (Option (List Cell)) → Prop} (h : ∃ b vals outs, a = b ∧ D P X (.call 161 b vals outs) ∧ Q vals outs) : CallS P X 161 a Q := ⟨h⟩

open Classical in
noncomputable def hasW (l : List ByteArray) (s : ByteArray) : Bool := decide (s ∈ l)
theorem hasW_y {l : List ByteArray} {s : ByteArray} (h : s ∈ l) : hasW l s = true := by unfold hasW; simp [h]
theorem hasW_n {l : List ByteArray} {s : ByteArray} (h : ∀ j (hj : j < l.length), l[j] ≠ s) : hasW l s = false := by
  have q : ¬ s ∈ l := fun q => by
    obtain ⟨j, hj, e⟩ := List.getElem_of_mem q
    exact h j hj e
  unfold hasW; simp [q]
theorem ba_eq {a b : ByteArray} (h : a.toList = b.toList) : a = b := by
  rw [ByteArray.toList_eq, ByteArray.toList_eq] at h
  exact ByteArray.ext (Array.toList_inj.1 h)
theorem fr_has (s : ByteArray) : frOk s = (nmOk s && !hasW wrds s) := by
  unfold frOk hasW
  by_cases h : s ∈ wrds <;> simp [h]

set_option maxRecDepth 100000 in
theorem tx162 {l : List ByteArray} {s : ByteArray} (hl : l.length ≤ 2000000 := by first | assumption | omega | (simp; done) | (simp; omega)) : T 162 [aE l, aS s] [vB (hasW l s)] [none, none] := by
  refine w_call md [] Tryz.func162 rfl ?_
  repeat' ((conv => whnf); (first | refine k0 ?_ | refine jA fun _ => ?_ | refine jB fun _ => ?_ | refine kC (fun _ => ?_) fun _ => ?_ | refine jst ?_ | exact ⟨rfl, rfl⟩ | exact jV | fail))
  conv => whnf
  refine loopk (ι := Nat) (fun i => i ≤ l.length ∧ ∀ j (h : j < l.length), j < i → l[j] ≠ s) (fun i => l.length - i) (0) [0, 1] (fun i => [(5, .v false [i6 i])]) [none, none] ?_
  refine ⟨⟨by omega, by intros; omega⟩, ?_, fun i hi => ?_⟩
  · exact jw []
  · repeat' ((conv => whnf); (first | refine k0 ?_ | refine jst ?_ | exact ⟨rfl, rfl⟩ | exact jV | fail))
    conv => whnf
    refine ⟨fun hlt => ?_, fun hge => ?_⟩
    · have hi2 : i < l.length := by omega
      repeat' ((conv => whnf); (first | refine k0 ?_ | refine jA fun _ => ?_ | refine jB fun _ => ?_ | refine kC (fun _ => ?_) fun _ => ?_ | refine jst ?_ | exact ⟨rfl, rfl⟩ | exact jV | fail))
      · exact ⟨by rw [hasW_y (by rw [← ba_eq ‹l[i].toList = s.toList›]; exact List.getElem_mem hi2)], rfl⟩
      · refine ⟨⟨i + 1, by omega, all_suc hi.2 hi2 (fun e => absurd (congrArg ByteArray.toList e) ‹¬ l[i].toList = s.toList›)⟩, by simp only; omega, ?_⟩
        exact jw []
    · obtain rfl : i = l.length := by omega
      repeat' ((conv => whnf); (first | refine k0 ?_ | refine jA fun _ => ?_ | refine jB fun _ => ?_ | refine kC (fun _ => ?_) fun _ => ?_ | refine jst ?_ | exact ⟨rfl, rfl⟩ | exact jV | fail))
      exact ⟨by rw [hasW_n (fun j hj => hi.2 j hj hj)], rfl⟩

theorem cx162 {P : Program} {X : FuncId → List Arg → List (Bool × List Cell) → List (Option (List Cell)) → Prop} {a : List Arg} {Q : List (Bool × List Cell) → List (Option (List Cell)) → Prop} (h : ∃ b vals outs, a = b ∧ D P X (.call 162 b vals outs) ∧ Q vals outs) : CallS P X 162 a Q := ⟨h⟩

set_option maxRecDepth 100000 in
theorem tx151 {s : ByteArray} (hs : s.size ≤ 2000000 := by first | assumption | omega | (simp; done) | (simp; omega)) : T 151 [aS s] [vB (frOk s)] [none] := by
  refine w_call md [] Tryz.func151 rfl ?_
  have hw : wrds.length = 10 := rfl
  repeat' ((conv => whnf); (first | (apply cx169; refine kl tx169 ?_) | refine k0 ?_ | refine jA fun _ => ?_ | refine jB fun _ => ?_ | refine kC (fun _ => ?_) fun _ => ?_ | (apply cx170; refine kl tx170 ?_) | refine jst ?_ | exact ⟨rfl, rfl⟩ | exact jV | fail))
  conv => whnf
  refine loopk (ι := Nat) (fun i => i ≤ 10 ∧ ∀ j (h : j < wrds.length), j < i → wrds[j] ≠ s) (fun i => 10 - i) (0) [0, 5, 6] (fun i => [(7, .v false [i6 i])]) [none, none] ?_
  refine ⟨⟨by omega, by intros; omega⟩, ?_, fun i hi => ?_⟩
  · exact jw []
  · repeat' ((conv => whnf); (first | refine k0 ?_ | (apply cx170; refine kl tx170 ?_) | refine jst ?_ | exact ⟨rfl, rfl⟩ | exact jV | fail))
    conv => whnf
    refine ⟨fun hlt => ?_, fun hge => ?_⟩
    · have hi2 : i < wrds.length := by omega
      repeat' ((conv => whnf); (first | refine k0 ?_ | refine jA fun _ => ?_ | refine jB fun _ => ?_ | refine kC (fun _ => ?_) fun _ => ?_ | (apply cx170; refine kl tx170 ?_) | refine jst ?_ | exact ⟨rfl, rfl⟩ | exact jV | fail))
      · exact ⟨by rw [frOk_w (by rw [← ba_eq ‹wrds[i].toList = s.toList›]; exact List.getElem_mem hi2)], rfl⟩
      · refine ⟨⟨i + 1, by omega, all_suc hi.2 hi2 (fun e => absurd (congrArg ByteArray.toList e) ‹¬ wrds[i].toList = s.toList›)⟩, by simp only; omega, ?_⟩
        exact jw []
    · obtain rfl : i = 10 := by omega
      have hn : frOk s = nmOk s := frOk_f fun q => by
        obtain ⟨j, hj, e⟩ := List.getElem_of_mem q
        exact hi.2 j hj (by omega) e
      rw [hn]
      repeat' ((conv => whnf); (first | refine k0 ?_ | refine jA fun _ => ?_ | refine jB fun _ => ?_ | refine kC (fun _ => ?_) fun _ => ?_ | (apply cx170; refine kl tx170 ?_) | refine jst ?_ | exact ⟨rfl, rfl⟩ | exact jV | fail))
      all_goals exact ⟨by rw [‹nmOk s = _›], rfl⟩

theorem cx151 {P : Program} {X : FuncId → List Arg → List (Bool × List Cell) → List (Option (List Cell)) → Prop} {a : List Arg} {Q : List (Bool × List Cell) → List (Option (List Cell)) → Prop} (h : ∃ b vals outs, a = b ∧ D P X (.call 151 b vals outs) ∧ Q vals outs) : CallS P X 151 a Q := ⟨h⟩

set_option maxRecDepth 100000 in
theorem tx138 {s : ByteArray} (hs : s.size ≤ 2000000 := by first | assumption | omega | (simp; done) | (simp; omega)) : T 138 [aS s] [vB (frOk s)] [none] := by
  refine w_call md [] Tryz.func138 rfl ?_
  have hw : wrds.length = 10 := rfl
  rw [fr_has]
  repeat' ((conv => whnf); (first | (apply cx162; refine kl (tx162 (l := wrds) (s := s)) ?_) | refine ⟨snc (o := true) (xs := wrds), _, snr (o := true) (xs := wrds), ?_⟩ | refine k0 ?_ | refine jA fun _ => ?_ | refine jB fun _ => ?_ | refine kC (fun _ => ?_) fun _ => ?_ | (apply cx161; refine kl tx161 ?_) | (apply cx162; refine kl tx162 ?_) | refine jst ?_ | exact ⟨rfl, rfl⟩ | exact jV | fail))
  all_goals exact ⟨by simp [*], rfl⟩

theorem cx138 {P : Program} {X : FuncId → List Arg → List (Bool × List Cell) → List (Option (List Cell)) → Prop} {a : List Arg} {Q : List (Bool × List Cell) → List (Option (List Cell)) → Prop} (h : ∃ b vals outs, a = b ∧ D P X (.call 138 b vals outs) ∧ Q vals outs) : CallS P X 138 a Q := ⟨h⟩

end Go.Proofs.YtopnaijeicknoaaGreatDoor
