/- Functions of the program, each with what it gives back. -/
import Derived.Test.YtkimclpagokeaaaGreatDoorKe
import Derived.Test.YtkimclpagokeaaaGreatDoorChecked
import Derived.IntWalk
import Derived.Test.YtkimclpagokeaaaGreatDoorFa
namespace Go.Proofs.YtkimclpagokeaaaGreatDoor
open Go Go.RowKit Go.IntWalk
open Enc (sz cs)
attribute [local irreducible] IntKind.wrap

/-! ### Names -/
abbrev wrds : List ByteArray := [⟨#[116, 97, 98, 108, 101]⟩, ⟨#[112, 114, 105, 109, 97, 114, 121]⟩, ⟨#[117, 110, 105, 113, 117, 101]⟩, ⟨#[105, 110, 100, 101, 120]⟩, ⟨#[110, 117, 108, 108]⟩, ⟨#[100, 101, 115, 99]⟩, ⟨#[105, 110, 116]⟩, ⟨#[110, 117, 109]⟩, ⟨#[116, 101, 120, 116]⟩, ⟨#[98, 111, 111, 108]⟩]
abbrev NmC (s : ByteArray) (i : Nat) (h : i < s.size) : Prop := (97 ≤ s[i].toNat ∧ s[i].toNat ≤ 122) ∨ (0 < i ∧ 48 ≤ s[i].toNat ∧ s[i].toNat ≤ 57)
structure NmOk (s : ByteArray) : Prop where
  len : 1 ≤ s.size ∧ s.size ≤ 8
  chr : ∀ i (h : i < s.size), NmC s i h
open Classical in
noncomputable def nmOk (s : ByteArray) : Bool := decide (NmOk s)
theorem nmOk_y {s : ByteArray} (h : NmOk s) : nmOk s = true := by unfold nmOk; simp [h]
theorem nmOk_n {s : ByteArray} (h : ¬ NmOk s) : nmOk s = false := by unfold nmOk; simp [h]
open Classical in
/-- A name that is free. -/
noncomputable def frOk (s : ByteArray) : Bool := nmOk s && decide (s ∉ wrds)
theorem frOk_w {s : ByteArray} (h : s ∈ wrds) : frOk s = false := by unfold frOk; simp [h]
theorem frOk_f {s : ByteArray} (h : s ∉ wrds) : frOk s = nmOk s := by unfold frOk; simp [h]
theorem sgt {s : ByteArray} {i : Nat} (h : i < s.size) : s.data.toList[((i : Nat) : Int).toNat]? = some s[i] := by
  rw [Int.toNat_natCast, Array.getElem?_toList, Array.getElem?_eq_getElem h]; rfl
theorem nmOk_c {s : ByteArray} {i : Nat} (h : i < s.size) (hc : ¬ NmC s i h) : nmOk s = false := nmOk_n fun q => hc (q.chr i h)

theorem tx92 : T 92 [aS ⟨#[116, 97, 98, 108, 101, 32, 112, 114, 105, 109, 97, 114, 121, 32, 117, 110, 105, 113, 117, 101, 32, 105, 110, 100, 101, 120, 32, 110, 117, 108, 108, 32, 100, 101, 115, 99, 32, 105, 110, 116, 32, 110, 117, 109, 32, 116, 101, 120, 116, 32, 98, 111, 111, 108]⟩, aS ⟨#[32]⟩] [vE wrds] [none, none] := .ext ⟨rfl, rfl, rfl, rfl⟩
theorem cx92 {P : Program} {X : FuncId → List Arg → List (Bool × List Cell) → List (Option (List Cell)) → Prop} {a : List Arg} {Q : List (Bool × List Cell) → List (Option (List Cell)) → Prop} (h : ∃ b vals outs, a = b ∧ D P X (.call 92 b vals outs) ∧ Q vals outs) : CallS P X 92 a Q := ⟨h⟩

abbrev aU (c : UInt8) : Arg := .val false [.prim (.int .u8 (c.toNat : Int))]
abbrev isL (c : UInt8) : Bool := decide (97 ≤ c.toNat ∧ c.toNat ≤ 122)
abbrev isD (c : UInt8) : Bool := decide (48 ≤ c.toNat ∧ c.toNat ≤ 57)

set_option maxRecDepth 100000 in
theorem tx95 {c : UInt8} : T 95 [aU c] [vB (isL c)] [none] := by
  refine w_call md [] Tryz.func95 rfl ?_
  repeat' ((conv => whnf); (first | refine k0 ?_ | refine jA fun _ => ?_ | refine jB fun _ => ?_ | refine kC (fun _ => ?_) fun _ => ?_ | refine jS ?_ | refine jI ?_ | refine jD ?_ | refine ⟨snc, _, snr, ?_⟩ | refine ⟨⟨Nat.le_refl _, rfl⟩, [], rfl, ?_⟩ | refine And.intro ⟨rfl, rfl, by decide, rfl⟩ ?_ | refine jP ?_ | refine jO ?_ | refine jX ?_ | refine jb jr ?_ | refine jb ofs ?_ | refine ko jc ?_ | refine ko jp ?_ | refine jM ?_ | refine kr ?_ | refine ko rfl ?_ | refine And.intro (cs_shal _) ?_ | refine And.intro (rfl : List.all _ _ = true) ?_ | refine And.intro ⟨rfl, (rfl : List.all _ _ = true)⟩ ?_ | exact ⟨rfl, rfl⟩ | exact jV | fail))
  all_goals exact ⟨by simp only [isL]; first | rw [decide_eq_true (by omega)] | rw [decide_eq_false (by omega)], rfl⟩

theorem cx95 {P : Program} {X : FuncId → List Arg → List (Bool × List Cell) → List (Option (List Cell)) → Prop} {a : List Arg} {Q : List (Bool × List Cell) → List (Option (List Cell)) → Prop} (h : ∃ b vals outs, a = b ∧ D P X (.call 95 b vals outs) ∧ Q vals outs) : CallS P X 95 a Q := ⟨h⟩

set_option maxRecDepth 100000 in
theorem tx96 {c : UInt8} : T 96 [aU c] [vB (isD c)] [none] := by
  refine w_call md [] Tryz.func96 rfl ?_
  repeat' ((conv => whnf); (first | refine k0 ?_ | refine jA fun _ => ?_ | refine jB fun _ => ?_ | refine kC (fun _ => ?_) fun _ => ?_ | refine jS ?_ | refine jI ?_ | refine jD ?_ | refine ⟨snc, _, snr, ?_⟩ | refine ⟨⟨Nat.le_refl _, rfl⟩, [], rfl, ?_⟩ | refine And.intro ⟨rfl, rfl, by decide, rfl⟩ ?_ | refine jP ?_ | refine jO ?_ | refine jX ?_ | refine jb jr ?_ | refine jb ofs ?_ | refine ko jc ?_ | refine ko jp ?_ | refine jM ?_ | refine kr ?_ | refine ko rfl ?_ | refine And.intro (cs_shal _) ?_ | refine And.intro (rfl : List.all _ _ = true) ?_ | refine And.intro ⟨rfl, (rfl : List.all _ _ = true)⟩ ?_ | exact ⟨rfl, rfl⟩ | exact jV | fail))
  all_goals exact ⟨by simp only [isD]; first | rw [decide_eq_true (by omega)] | rw [decide_eq_false (by omega)], rfl⟩

theorem cx96 {P : Program} {X : FuncId → List Arg → List (Bool × List Cell) → List (Option (List Cell)) → Prop} {a : List Arg} {Q : List (Bool × List Cell) → List (Option (List Cell)) → Prop} (h : ∃ b vals outs, a = b ∧ D P X (.call 96 b vals outs) ∧ Q vals outs) : CallS P X 96 a Q := ⟨h⟩

set_option maxRecDepth 100000 in
theorem tx90 {c : UInt8} : T 90 [aU c] [vB (isL c)] [none] := by
  refine w_call md [] Tryz.func90 rfl ?_
  have hu := UInt8.toNat_lt c
  have h : inB (c.toNat : Int) 97 122 = isL c := by
    simp only [inB, isL]
    by_cases h : 97 ≤ c.toNat ∧ c.toNat ≤ 122
    · rw [decide_eq_true h]; simp; omega
    · rw [decide_eq_false h]; simp; omega
  repeat' ((conv => whnf); (first | refine k0 ?_ | refine jA fun _ => ?_ | refine jB fun _ => ?_ | refine kC (fun _ => ?_) fun _ => ?_ | refine jS ?_ | refine jI ?_ | (apply cx23; refine kl tx23 ?_) | refine jD ?_ | refine ⟨snc, _, snr, ?_⟩ | refine ⟨⟨Nat.le_refl _, rfl⟩, [], rfl, ?_⟩ | refine And.intro ⟨rfl, rfl, by decide, rfl⟩ ?_ | refine jP ?_ | refine jO ?_ | refine jX ?_ | refine jb jr ?_ | refine jb ofs ?_ | refine ko jc ?_ | refine ko jp ?_ | refine jM ?_ | refine kr ?_ | refine ko rfl ?_ | refine And.intro (cs_shal _) ?_ | refine And.intro (rfl : List.all _ _ = true) ?_ | refine And.intro ⟨rfl, (rfl : List.all _ _ = true)⟩ ?_ | exact ⟨rfl, rfl⟩ | exact jV | fail))
  all_goals exact ⟨by rw [← h, ‹inB _ _ _ = _›], rfl⟩

theorem cx90 {P : Program} {X : FuncId → List Arg → List (Bool × List Cell) → List (Option (List Cell)) → Prop} {a : List Arg} {Q : List (Bool × List Cell) → List (Option (List Cell)) → Prop} (h : ∃ b vals outs, a = b ∧ D P X (.call 90 b vals outs) ∧ Q vals outs) : CallS P X 90 a Q := ⟨h⟩

set_option maxRecDepth 100000 in
theorem tx91 {c : UInt8} : T 91 [aU c] [vB (isD c)] [none] := by
  refine w_call md [] Tryz.func91 rfl ?_
  have hu := UInt8.toNat_lt c
  have h : inB (c.toNat : Int) 48 57 = isD c := by
    simp only [inB, isD]
    by_cases h : 48 ≤ c.toNat ∧ c.toNat ≤ 57
    · rw [decide_eq_true h]; simp; omega
    · rw [decide_eq_false h]; simp; omega
  repeat' ((conv => whnf); (first | refine k0 ?_ | refine jA fun _ => ?_ | refine jB fun _ => ?_ | refine kC (fun _ => ?_) fun _ => ?_ | refine jS ?_ | refine jI ?_ | (apply cx23; refine kl tx23 ?_) | refine jD ?_ | refine ⟨snc, _, snr, ?_⟩ | refine ⟨⟨Nat.le_refl _, rfl⟩, [], rfl, ?_⟩ | refine And.intro ⟨rfl, rfl, by decide, rfl⟩ ?_ | refine jP ?_ | refine jO ?_ | refine jX ?_ | refine jb jr ?_ | refine jb ofs ?_ | refine ko jc ?_ | refine ko jp ?_ | refine jM ?_ | refine kr ?_ | refine ko rfl ?_ | refine And.intro (cs_shal _) ?_ | refine And.intro (rfl : List.all _ _ = true) ?_ | refine And.intro ⟨rfl, (rfl : List.all _ _ = true)⟩ ?_ | exact ⟨rfl, rfl⟩ | exact jV | fail))
  all_goals exact ⟨by rw [← h, ‹inB _ _ _ = _›], rfl⟩

theorem cx91 {P : Program} {X : FuncId → List Arg → List (Bool × List Cell) → List (Option (List Cell)) → Prop} {a : List Arg} {Q : List (Bool × List Cell) → List (Option (List Cell)) → Prop} (h : ∃ b vals outs, a = b ∧ D P X (.call 91 b vals outs) ∧ Q vals outs) : CallS P X 91 a Q := ⟨h⟩

set_option maxRecDepth 100000 in
theorem tx93 {s : ByteArray} (hs : s.size ≤ 2000000 := by first | assumption | omega | (simp; done) | (simp; omega)) : T 93 [aS s] [vB (nmOk s)] [none] := by
  refine w_call md [] Tryz.func93 rfl ?_
  repeat' ((conv => whnf); (first | refine k0 ?_ | refine jA fun _ => ?_ | refine jB fun _ => ?_ | refine kC (fun _ => ?_) fun _ => ?_ | refine jS ?_ | refine jI ?_ | (apply cx95; refine kl tx95 ?_) | (apply cx96; refine kl tx96 ?_) | (apply cx51; refine kl tx51 ?_) | refine jD ?_ | refine ⟨snc, _, snr, ?_⟩ | refine ⟨⟨Nat.le_refl _, rfl⟩, [], rfl, ?_⟩ | refine And.intro ⟨rfl, rfl, by decide, rfl⟩ ?_ | refine jP ?_ | refine jO ?_ | refine jX ?_ | refine jb jr ?_ | refine jb ofs ?_ | refine ko jc ?_ | refine ko jp ?_ | refine jM ?_ | refine kr ?_ | refine ko rfl ?_ | refine And.intro (cs_shal _) ?_ | refine And.intro (rfl : List.all _ _ = true) ?_ | refine And.intro ⟨rfl, (rfl : List.all _ _ = true)⟩ ?_ | exact ⟨rfl, rfl⟩ | exact jV | fail))
  conv => whnf
  refine loopk (ι := Nat) (fun i => i ≤ s.size ∧ ∀ j (h : j < s.size), j < i → NmC s j h) (fun i => s.size - i) (0) [0] (fun i => [(3, .v false [i6 i])]) [none] ?_
  refine ⟨⟨by omega, by intros; omega⟩, ?_, fun i hi => ?_⟩
  · exact jw []
  · repeat' ((conv => whnf); (first | refine k0 ?_ | refine jS ?_ | refine jI ?_ | (apply cx95; refine kl tx95 ?_) | (apply cx96; refine kl tx96 ?_) | (apply cx51; refine kl tx51 ?_) | refine jD ?_ | refine ⟨snc, _, snr, ?_⟩ | refine ⟨⟨Nat.le_refl _, rfl⟩, [], rfl, ?_⟩ | refine And.intro ⟨rfl, rfl, by decide, rfl⟩ ?_ | refine jP ?_ | refine jO ?_ | refine jX ?_ | refine jb jr ?_ | refine jb ofs ?_ | refine ko jc ?_ | refine ko jp ?_ | refine jM ?_ | refine kr ?_ | refine ko rfl ?_ | refine And.intro (cs_shal _) ?_ | refine And.intro (rfl : List.all _ _ = true) ?_ | refine And.intro ⟨rfl, (rfl : List.all _ _ = true)⟩ ?_ | exact ⟨rfl, rfl⟩ | exact jV | fail))
    conv => whnf
    refine ⟨fun hlt => ?_, fun hge => ?_⟩
    · have hi2 : i < s.size := by omega
      repeat' ((conv => whnf); (first | (apply cx95; refine kl (tx95 (c := s[i])) ?_) | (apply cx96; refine kl (tx96 (c := s[i])) ?_) | refine And.intro (by omega) (Exists.intro s[i] (And.intro (sgt hi2) ?_)) | refine k0 ?_ | refine jA fun _ => ?_ | refine jB fun _ => ?_ | refine kC (fun _ => ?_) fun _ => ?_ | refine jS ?_ | refine jI ?_ | (apply cx95; refine kl tx95 ?_) | (apply cx96; refine kl tx96 ?_) | (apply cx51; refine kl tx51 ?_) | refine jD ?_ | refine ⟨snc, _, snr, ?_⟩ | refine ⟨⟨Nat.le_refl _, rfl⟩, [], rfl, ?_⟩ | refine And.intro ⟨rfl, rfl, by decide, rfl⟩ ?_ | refine jP ?_ | refine jO ?_ | refine jX ?_ | refine jb jr ?_ | refine jb ofs ?_ | refine ko jc ?_ | refine ko jp ?_ | refine jM ?_ | refine kr ?_ | refine ko rfl ?_ | refine And.intro (cs_shal _) ?_ | refine And.intro (rfl : List.all _ _ = true) ?_ | refine And.intro ⟨rfl, (rfl : List.all _ _ = true)⟩ ?_ | exact ⟨rfl, rfl⟩ | exact jV | fail))
      · refine ⟨⟨i + 1, by omega, all_suc hi.2 hi2 (.inl (of_decide_eq_true ‹isL _ = true›))⟩, by simp only; omega, ?_⟩
        exact jw []
      · have hl := of_decide_eq_false ‹isL _ = false›
        exact ⟨by rw [nmOk_c hi2 (fun q => q.elim hl fun q => absurd q.1 (by omega))], rfl⟩
      · have hd := of_decide_eq_true ‹isD _ = true›
        refine ⟨⟨i + 1, by omega, all_suc hi.2 hi2 (.inr ⟨by omega, hd⟩)⟩, by simp only; omega, ?_⟩
        exact jw []
      · have hl := of_decide_eq_false ‹isL _ = false›
        have hd := of_decide_eq_false ‹isD _ = false›
        exact ⟨by rw [nmOk_c hi2 (fun q => q.elim hl fun q => hd q.2)], rfl⟩
    · obtain rfl : i = s.size := by omega
      have hl : inB (s.size : Int) 1 8 = nmOk s := by
        by_cases h : 1 ≤ s.size ∧ s.size ≤ 8
        · rw [nmOk_y ⟨h, fun j hj => hi.2 j hj hj⟩, inB_iff]; omega
        · rw [nmOk_n fun q => h q.len, inB_no]; omega
      repeat' ((conv => whnf); (first | refine k0 ?_ | refine jA fun _ => ?_ | refine jB fun _ => ?_ | refine kC (fun _ => ?_) fun _ => ?_ | refine jS ?_ | refine jI ?_ | (apply cx95; refine kl tx95 ?_) | (apply cx96; refine kl tx96 ?_) | (apply cx51; refine kl tx51 ?_) | refine jD ?_ | refine ⟨snc, _, snr, ?_⟩ | refine ⟨⟨Nat.le_refl _, rfl⟩, [], rfl, ?_⟩ | refine And.intro ⟨rfl, rfl, by decide, rfl⟩ ?_ | refine jP ?_ | refine jO ?_ | refine jX ?_ | refine jb jr ?_ | refine jb ofs ?_ | refine ko jc ?_ | refine ko jp ?_ | refine jM ?_ | refine kr ?_ | refine ko rfl ?_ | refine And.intro (cs_shal _) ?_ | refine And.intro (rfl : List.all _ _ = true) ?_ | refine And.intro ⟨rfl, (rfl : List.all _ _ = true)⟩ ?_ | exact ⟨rfl, rfl⟩ | exact jV | fail))
      all_goals exact ⟨by rw [← hl, ‹inB _ _ _ = _›], rfl⟩

theorem cx93 {P : Program} {X : FuncId → List Arg → List (Bool × List Cell) → List (Option (List Cell)) → Prop} {a : List Arg} {Q : List (Bool × List Cell) → List (Option (List Cell)) → Prop} (h : ∃ b vals outs, a = b ∧ D P X (.call 93 b vals outs) ∧ Q vals outs) : CallS P X 93 a Q := ⟨h⟩

set_option maxRecDepth 100000 in
theorem tx86 {s : ByteArray} (hs : s.size ≤ 2000000 := by first | assumption | omega | (simp; done) | (simp; omega)) : T 86 [aS s] [vB (nmOk s)] [none] := by
  refine w_call md [] Tryz.func86 rfl ?_
  repeat' ((conv => whnf); (first | refine k0 ?_ | refine jA fun _ => ?_ | refine jB fun _ => ?_ | refine kC (fun _ => ?_) fun _ => ?_ | refine jS ?_ | refine jI ?_ | (apply cx90; refine kl tx90 ?_) | (apply cx91; refine kl tx91 ?_) | (apply cx23; refine kl tx23 ?_) | refine jD ?_ | refine ⟨snc, _, snr, ?_⟩ | refine ⟨⟨Nat.le_refl _, rfl⟩, [], rfl, ?_⟩ | refine And.intro ⟨rfl, rfl, by decide, rfl⟩ ?_ | refine jP ?_ | refine jO ?_ | refine jX ?_ | refine jb jr ?_ | refine jb ofs ?_ | refine ko jc ?_ | refine ko jp ?_ | refine jM ?_ | refine kr ?_ | refine ko rfl ?_ | refine And.intro (cs_shal _) ?_ | refine And.intro (rfl : List.all _ _ = true) ?_ | refine And.intro ⟨rfl, (rfl : List.all _ _ = true)⟩ ?_ | exact ⟨rfl, rfl⟩ | exact jV | fail))
  conv => whnf
  refine loopk (ι := Nat) (fun i => i ≤ s.size ∧ ∀ j (h : j < s.size), j < i → NmC s j h) (fun i => s.size - i) (0) [0] (fun i => [(3, .v false [i6 i])]) [none] ?_
  refine ⟨⟨by omega, by intros; omega⟩, ?_, fun i hi => ?_⟩
  · exact jw []
  · repeat' ((conv => whnf); (first | refine k0 ?_ | refine jS ?_ | refine jI ?_ | (apply cx90; refine kl tx90 ?_) | (apply cx91; refine kl tx91 ?_) | (apply cx23; refine kl tx23 ?_) | refine jD ?_ | refine ⟨snc, _, snr, ?_⟩ | refine ⟨⟨Nat.le_refl _, rfl⟩, [], rfl, ?_⟩ | refine And.intro ⟨rfl, rfl, by decide, rfl⟩ ?_ | refine jP ?_ | refine jO ?_ | refine jX ?_ | refine jb jr ?_ | refine jb ofs ?_ | refine ko jc ?_ | refine ko jp ?_ | refine jM ?_ | refine kr ?_ | refine ko rfl ?_ | refine And.intro (cs_shal _) ?_ | refine And.intro (rfl : List.all _ _ = true) ?_ | refine And.intro ⟨rfl, (rfl : List.all _ _ = true)⟩ ?_ | exact ⟨rfl, rfl⟩ | exact jV | fail))
    conv => whnf
    refine ⟨fun hlt => ?_, fun hge => ?_⟩
    · have hi2 : i < s.size := by omega
      repeat' ((conv => whnf); (first | (apply cx90; refine kl (tx90 (c := s[i])) ?_) | (apply cx91; refine kl (tx91 (c := s[i])) ?_) | refine And.intro (by omega) (Exists.intro s[i] (And.intro (sgt hi2) ?_)) | refine k0 ?_ | refine jA fun _ => ?_ | refine jB fun _ => ?_ | refine kC (fun _ => ?_) fun _ => ?_ | refine jS ?_ | refine jI ?_ | (apply cx90; refine kl tx90 ?_) | (apply cx91; refine kl tx91 ?_) | (apply cx23; refine kl tx23 ?_) | refine jD ?_ | refine ⟨snc, _, snr, ?_⟩ | refine ⟨⟨Nat.le_refl _, rfl⟩, [], rfl, ?_⟩ | refine And.intro ⟨rfl, rfl, by decide, rfl⟩ ?_ | refine jP ?_ | refine jO ?_ | refine jX ?_ | refine jb jr ?_ | refine jb ofs ?_ | refine ko jc ?_ | refine ko jp ?_ | refine jM ?_ | refine kr ?_ | refine ko rfl ?_ | refine And.intro (cs_shal _) ?_ | refine And.intro (rfl : List.all _ _ = true) ?_ | refine And.intro ⟨rfl, (rfl : List.all _ _ = true)⟩ ?_ | exact ⟨rfl, rfl⟩ | exact jV | fail))
      · refine ⟨⟨i + 1, by omega, all_suc hi.2 hi2 (.inl (of_decide_eq_true ‹isL _ = true›))⟩, by simp only; omega, ?_⟩
        exact jw []
      · have hl := of_decide_eq_false ‹isL _ = false›
        exact ⟨by rw [nmOk_c hi2 (fun q => q.elim hl fun q => absurd q.1 (by omega))], rfl⟩
      · have hd := of_decide_eq_true ‹isD _ = true›
        refine ⟨⟨i + 1, by omega, all_suc hi.2 hi2 (.inr ⟨by omega, hd⟩)⟩, by simp only; omega, ?_⟩
        exact jw []
      · have hl := of_decide_eq_false ‹isL _ = false›
        have hd := of_decide_eq_false ‹isD _ = false›
        exact ⟨by rw [nmOk_c hi2 (fun q => q.elim hl fun q => hd q.2)], rfl⟩
    · obtain rfl : i = s.size := by omega
      have hl : inB (s.size : Int) 1 8 = nmOk s := by
        by_cases h : 1 ≤ s.size ∧ s.size ≤ 8
        · rw [nmOk_y ⟨h, fun j hj => hi.2 j hj hj⟩, inB_iff]; omega
        · rw [nmOk_n fun q => h q.len, inB_no]; omega
      repeat' ((conv => whnf); (first | refine k0 ?_ | refine jA fun _ => ?_ | refine jB fun _ => ?_ | refine kC (fun _ => ?_) fun _ => ?_ | refine jS ?_ | refine jI ?_ | (apply cx90; refine kl tx90 ?_) | (apply cx91; refine kl tx91 ?_) | (apply cx23; refine kl tx23 ?_) | refine jD ?_ | refine ⟨snc, _, snr, ?_⟩ | refine ⟨⟨Nat.le_refl _, rfl⟩, [], rfl, ?_⟩ | refine And.intro ⟨rfl, rfl, by decide, rfl⟩ ?_ | refine jP ?_ | refine jO ?_ | refine jX ?_ | refine jb jr ?_ | refine jb ofs ?_ | refine ko jc ?_ | refine ko jp ?_ | refine jM ?_ | refine kr ?_ | refine ko rfl ?_ | refine And.intro (cs_shal _) ?_ | refine And.intro (rfl : List.all _ _ = true) ?_ | refine And.intro ⟨rfl, (rfl : List.all _ _ = true)⟩ ?_ | exact ⟨rfl, rfl⟩ | exact jV | fail))
      all_goals exact ⟨by rw [← hl, ‹inB _ _ _ = _›], rfl⟩

theorem cx86 {P : Program} {X : FuncId → List Arg → List (Bool × List Cell) → List (Option (List Cell)) → Prop} {a : List Arg} {Q : List (Bool × List Cell) → List (Option (List Cell)) → Prop} (h : ∃ b vals outs, a = b ∧ D P X (.call 86 b vals outs) ∧ Q vals outs) : CallS P X 86 a Q := ⟨h⟩

open Classical in
noncomputable def hasW (l : List ByteArray) (s : ByteArray) : Bool := decide (s ∈ l)
theorem hasW_y {l : List ByteArray} {s : ByteArray} (h : s ∈ l) : hasW l s = true := by unfold hasW; simp [h]
theorem hasW_n {l : List ByteArray} {s : ByteArray} (h : ∀ j (hj : j < l.length), l[j] ≠ s) : hasW l s = false := by
  have q : ¬ s ∈ l := fun q => by
    obtain ⟨j, hj, e⟩ := List.getElem_of_mem q
    exact h j hj e
  unfold hasW; simp [q]
theorem ba_eq {a b : ByteArray} (h : a.toList = b.toList) : a = b := by
  rw [ByteArray.toList_eq, ByteArray.toList_eq] at h
  exact ByteArray.ext (Array.toList_inj.1 h)
theorem fr_has (s : ByteArray) : frOk s = (nmOk s && !hasW wrds s) := by
  unfold frOk hasW
  by_cases h : s ∈ wrds <;> simp [h]

set_option maxRecDepth 100000 in
theorem tx87 {l : List ByteArray} {s : ByteArray} (hl : l.length ≤ 2000000 := by first | assumption | omega | (simp; done) | (simp; omega)) : T 87 [aE l, aS s] [vB (hasW l s)] [none, none] := by
  refine w_call md [] Tryz.func87 rfl ?_
  repeat' ((conv => whnf); (first | refine k0 ?_ | refine jA fun _ => ?_ | refine jB fun _ => ?_ | refine kC (fun _ => ?_) fun _ => ?_ | refine jS ?_ | refine jI ?_ | refine jD ?_ | refine ⟨snc, _, snr, ?_⟩ | refine ⟨⟨Nat.le_refl _, rfl⟩, [], rfl, ?_⟩ | refine And.intro ⟨rfl, rfl, by decide, rfl⟩ ?_ | refine jP ?_ | refine jO ?_ | refine jX ?_ | refine jb jr ?_ | refine jb ofs ?_ | refine ko jc ?_ | refine ko jp ?_ | refine jM ?_ | refine kr ?_ | refine ko rfl ?_ | refine And.intro (cs_shal _) ?_ | refine And.intro (rfl : List.all _ _ = true) ?_ | refine And.intro ⟨rfl, (rfl : List.all _ _ = true)⟩ ?_ | exact ⟨rfl, rfl⟩ | exact jV | fail))
  conv => whnf
  refine loopk (ι := Nat) (fun i => i ≤ l.length ∧ ∀ j (h : j < l.length), j < i → l[j] ≠ s) (fun i => l.length - i) (0) [0, 1] (fun i => [(5, .v false [i6 i])]) [none, none] ?_
  refine ⟨⟨by omega, by intros; omega⟩, ?_, fun i hi => ?_⟩
  · exact jw []
  · repeat' ((conv => whnf); (first | refine k0 ?_ | refine jS ?_ | refine jI ?_ | refine jD ?_ | refine ⟨snc, _, snr, ?_⟩ | refine ⟨⟨Nat.le_refl _, rfl⟩, [], rfl, ?_⟩ | refine And.intro ⟨rfl, rfl, by decide, rfl⟩ ?_ | refine jP ?_ | refine jO ?_ | refine jX ?_ | refine jb jr ?_ | refine jb ofs ?_ | refine ko jc ?_ | refine ko jp ?_ | refine jM ?_ | refine kr ?_ | refine ko rfl ?_ | refine And.intro (cs_shal _) ?_ | refine And.intro (rfl : List.all _ _ = true) ?_ | refine And.intro ⟨rfl, (rfl : List.all _ _ = true)⟩ ?_ | exact ⟨rfl, rfl⟩ | exact jV | fail))
    conv => whnf
    refine ⟨fun hlt => ?_, fun hge => ?_⟩
    · have hi2 : i < l.length := by omega
      repeat' ((conv => whnf); (first | refine k0 ?_ | refine jA fun _ => ?_ | refine jB fun _ => ?_ | refine kC (fun _ => ?_) fun _ => ?_ | refine jS ?_ | refine jI ?_ | refine jD ?_ | refine ⟨snc, _, snr, ?_⟩ | refine ⟨⟨Nat.le_refl _, rfl⟩, [], rfl, ?_⟩ | refine And.intro ⟨rfl, rfl, by decide, rfl⟩ ?_ | refine jP ?_ | refine jO ?_ | refine jX ?_ | refine jb jr ?_ | refine jb ofs ?_ | refine ko jc ?_ | refine ko jp ?_ | refine jM ?_ | refine kr ?_ | refine ko rfl ?_ | refine And.intro (cs_shal _) ?_ | refine And.intro (rfl : List.all _ _ = true) ?_ | refine And.intro ⟨rfl, (rfl : List.all _ _ = true)⟩ ?_ | exact ⟨rfl, rfl⟩ | exact jV | fail))
      · exact ⟨by rw [hasW_y (by rw [← ba_eq ‹l[i].toList = s.toList›]; exact List.getElem_mem hi2)], rfl⟩
      · refine ⟨⟨i + 1, by omega, all_suc hi.2 hi2 (fun e => absurd (congrArg ByteArray.toList e) ‹¬ l[i].toList = s.toList›)⟩, by simp only; omega, ?_⟩
        exact jw []
    · obtain rfl : i = l.length := by omega
      repeat' ((conv => whnf); (first | refine k0 ?_ | refine jA fun _ => ?_ | refine jB fun _ => ?_ | refine kC (fun _ => ?_) fun _ => ?_ | refine jS ?_ | refine jI ?_ | refine jD ?_ | refine ⟨snc, _, snr, ?_⟩ | refine ⟨⟨Nat.le_refl _, rfl⟩, [], rfl, ?_⟩ | refine And.intro ⟨rfl, rfl, by decide, rfl⟩ ?_ | refine jP ?_ | refine jO ?_ | refine jX ?_ | refine jb jr ?_ | refine jb ofs ?_ | refine ko jc ?_ | refine ko jp ?_ | refine jM ?_ | refine kr ?_ | refine ko rfl ?_ | refine And.intro (cs_shal _) ?_ | refine And.intro (rfl : List.all _ _ = true) ?_ | refine And.intro ⟨rfl, (rfl : List.all _ _ = true)⟩ ?_ | exact ⟨rfl, rfl⟩ | exact jV | fail))
      exact ⟨by rw [hasW_n (fun j hj => hi.2 j hj hj)], rfl⟩

theorem cx87 {P : Program} {X : FuncId → List Arg → List (Bool × List Cell) → List (Option (List Cell)) → Prop} {a : List Arg} {Q : List (Bool × List Cell) → List (Option (List Cell)) → Prop} (h : ∃ b vals outs, a = b ∧ D P X (.call 87 b vals outs) ∧ Q vals outs) : CallS P X 87 a Q := ⟨h⟩

set_option maxRecDepth 100000 in
theorem tx89 {s : ByteArray} (hs : s.size ≤ 2000000 := by first | assumption | omega | (simp; done) | (simp; omega)) : T 89 [aS s] [vB (frOk s)] [none] := by
  refine w_call md [] Tryz.func89 rfl ?_
  have hw : wrds.length = 10 := rfl
  repeat' ((conv => whnf); (first | (apply cx92; refine kl tx92 ?_) | refine k0 ?_ | refine jA fun _ => ?_ | refine jB fun _ => ?_ | refine kC (fun _ => ?_) fun _ => ?_ | refine jS ?_ | refine jI ?_ | (apply cx93; refine kl tx93 ?_) | refine jD ?_ | refine ⟨snc, _, snr, ?_⟩ | refine ⟨⟨Nat.le_refl _, rfl⟩, [], rfl, ?_⟩ | refine And.intro ⟨rfl, rfl, by decide, rfl⟩ ?_ | refine jP ?_ | refine jO ?_ | refine jX ?_ | refine jb jr ?_ | refine jb ofs ?_ | refine ko jc ?_ | refine ko jp ?_ | refine jM ?_ | refine kr ?_ | refine ko rfl ?_ | refine And.intro (cs_shal _) ?_ | refine And.intro (rfl : List.all _ _ = true) ?_ | refine And.intro ⟨rfl, (rfl : List.all _ _ = true)⟩ ?_ | exact ⟨rfl, rfl⟩ | exact jV | fail))
  conv => whnf
  refine loopk (ι := Nat) (fun i => i ≤ 10 ∧ ∀ j (h : j < wrds.length), j < i → wrds[j] ≠ s) (fun i => 10 - i) (0) [0, 5, 6] (fun i => [(7, .v false [i6 i])]) [none, none] ?_
  refine ⟨⟨by omega, by intros; omega⟩, ?_, fun i hi => ?_⟩
  · exact jw []
  · repeat' ((conv => whnf); (first | refine k0 ?_ | refine jS ?_ | refine jI ?_ | (apply cx93; refine kl tx93 ?_) | refine jD ?_ | refine ⟨snc, _, snr, ?_⟩ | refine ⟨⟨Nat.le_refl _, rfl⟩, [], rfl, ?_⟩ | refine And.intro ⟨rfl, rfl, by decide, rfl⟩ ?_ | refine jP ?_ | refine jO ?_ | refine jX ?_ | refine jb jr ?_ | refine jb ofs ?_ | refine ko jc ?_ | refine ko jp ?_ | refine jM ?_ | refine kr ?_ | refine ko rfl ?_ | refine And.intro (cs_shal _) ?_ | refine And.intro (rfl : List.all _ _ = true) ?_ | refine And.intro ⟨rfl, (rfl : List.all _ _ = true)⟩ ?_ | exact ⟨rfl, rfl⟩ | exact jV | fail))
    conv => whnf
    refine ⟨fun hlt => ?_, fun hge => ?_⟩
    · have hi2 : i < wrds.length := by omega
      repeat' ((conv => whnf); (first | refine k0 ?_ | refine jA fun _ => ?_ | refine jB fun _ => ?_ | refine kC (fun _ => ?_) fun _ => ?_ | refine jS ?_ | refine jI ?_ | (apply cx93; refine kl tx93 ?_) | refine jD ?_ | refine ⟨snc, _, snr, ?_⟩ | refine ⟨⟨Nat.le_refl _, rfl⟩, [], rfl, ?_⟩ | refine And.intro ⟨rfl, rfl, by decide, rfl⟩ ?_ | refine jP ?_ | refine jO ?_ | refine jX ?_ | refine jb jr ?_ | refine jb ofs ?_ | refine ko jc ?_ | refine ko jp ?_ | refine jM ?_ | refine kr ?_ | refine ko rfl ?_ | refine And.intro (cs_shal _) ?_ | refine And.intro (rfl : List.all _ _ = true) ?_ | refine And.intro ⟨rfl, (rfl : List.all _ _ = true)⟩ ?_ | exact ⟨rfl, rfl⟩ | exact jV | fail))
      · exact ⟨by rw [frOk_w (by rw [← ba_eq ‹wrds[i].toList = s.toList›]; exact List.getElem_mem hi2)], rfl⟩
      · refine ⟨⟨i + 1, by omega, all_suc hi.2 hi2 (fun e => absurd (congrArg ByteArray.toList e) ‹¬ wrds[i].toList = s.toList›)⟩, by simp only; omega, ?_⟩
        exact jw []
    · obtain rfl : i = 10 := by omega
      have hn : frOk s = nmOk s := frOk_f fun q => by
        obtain ⟨j, hj, e⟩ := List.getElem_of_mem q
        exact hi.2 j hj (by omega) e
      rw [hn]
      repeat' ((conv => whnf); (first | refine k0 ?_ | refine jA fun _ => ?_ | refine jB fun _ => ?_ | refine kC (fun _ => ?_) fun _ => ?_ | refine jS ?_ | refine jI ?_ | (apply cx93; refine kl tx93 ?_) | refine jD ?_ | refine ⟨snc, _, snr, ?_⟩ | refine ⟨⟨Nat.le_refl _, rfl⟩, [], rfl, ?_⟩ | refine And.intro ⟨rfl, rfl, by decide, rfl⟩ ?_ | refine jP ?_ | refine jO ?_ | refine jX ?_ | refine jb jr ?_ | refine jb ofs ?_ | refine ko jc ?_ | refine ko jp ?_ | refine jM ?_ | refine kr ?_ | refine ko rfl ?_ | refine And.intro (cs_shal _) ?_ | refine And.intro (rfl : List.all _ _ = true) ?_ | refine And.intro ⟨rfl, (rfl : List.all _ _ = true)⟩ ?_ | exact ⟨rfl, rfl⟩ | exact jV | fail))
      all_goals exact ⟨by rw [‹nmOk s = _›], rfl⟩

theorem cx89 {P : Program} {X : FuncId → List Arg → List (Bool × List Cell) → List (Option (List Cell)) → Prop} {a : List Arg} {Q : List (Bool × List Cell) → List (Option (List Cell)) → Prop} (h : ∃ b vals outs, a = b ∧ D P X (.call 89 b vals outs) ∧ Q vals outs) : CallS P X 89 a Q := ⟨h⟩

set_option maxRecDepth 100000 in
theorem tx79 {s : ByteArray} (hs : s.size ≤ 2000000 := by first | assumption | omega | (simp; done) | (simp; omega)) : T 79 [aS s] [vB (frOk s)] [none] := by
  refine w_call md [] Tryz.func79 rfl ?_
  have hw : wrds.length = 10 := rfl
  rw [fr_has]
  repeat' ((conv => whnf); (first | (apply cx87; refine kl (tx87 (l := wrds) (s := s)) ?_) | refine ⟨snc (o := true) (xs := wrds), _, snr (o := true) (xs := wrds), ?_⟩ | refine k0 ?_ | refine jA fun _ => ?_ | refine jB fun _ => ?_ | refine kC (fun _ => ?_) fun _ => ?_ | refine jS ?_ | refine jI ?_ | (apply cx86; refine kl tx86 ?_) | (apply cx87; refine kl tx87 ?_) | refine jD ?_ | refine ⟨snc, _, snr, ?_⟩ | refine ⟨⟨Nat.le_refl _, rfl⟩, [], rfl, ?_⟩ | refine And.intro ⟨rfl, rfl, by decide, rfl⟩ ?_ | refine jP ?_ | refine jO ?_ | refine jX ?_ | refine jb jr ?_ | refine jb ofs ?_ | refine ko jc ?_ | refine ko jp ?_ | refine jM ?_ | refine kr ?_ | refine ko rfl ?_ | refine And.intro (cs_shal _) ?_ | refine And.intro (rfl : List.all _ _ = true) ?_ | refine And.intro ⟨rfl, (rfl : List.all _ _ = true)⟩ ?_ | exact ⟨rfl, rfl⟩ | exact jV | fail))
  all_goals exact ⟨by simp [*], rfl⟩

theorem cx79 {P : Program} {X : FuncId → List Arg → List (Bool × List Cell) → List (Option (List Cell)) → Prop} {a : List Arg} {Q : List (Bool × List Cell) → List (Option (List Cell)) → Prop} (h : ∃ b vals outs, a = b ∧ D P X (.call 79 b vals outs) ∧ Q vals outs) : CallS P X 79 a Q := ⟨h⟩

end Go.Proofs.YtkimclpagokeaaaGreatDoor
