/- Functions of the program, each with what it gives back. -/
import Derived.Test.YtopnaijeicknoaaGreatDoorKe
import Derived.Test.YtopnaijeicknoaaGreatDoorChecked
import Derived.IntWalk
import Derived.Test.YtopnaijeicknoaaGreatDoorFa
namespace Go.Proofs.YtopnaijeicknoaaGreatDoor
open Go Go.RowKit Go.IntWalk
open Enc (sz cs)
attribute [local irreducible] IntKind.wrap

set_option maxRecDepth 100000 in
theorem tx175 {n l h : Int} : T 175 [aI n, aI l, aI h] [vI (max l (min n h))] [none, none, none] := by
  refine w_call md [] Tryz.func175 rfl ?_
  repeat' ((conv => whnf); (first | refine Exists.intro (min n h) (And.intro (by omega) ?_) | refine Exists.intro (max l (min n h)) (And.intro (by omega) ?_) | refine k0 ?_ | refine jA fun _ => ?_ | refine jB fun _ => ?_ | refine kC (fun _ => ?_) fun _ => ?_ | refine jst ?_ | exact ⟨rfl, rfl⟩ | exact jV | fail))

theorem cx175 {P : Program} {X : FuncId → List Arg → List (Bool × List Cell) → List (Option (List Cell)) → Prop} {a : List Arg} {Q : List (Bool × List Cell) → List (Option (List Cell)) → Prop} (h : ∃ b vals outs, a = b ∧ D P X (.call 175 b vals outs) ∧ Q vals outs) : CallS P X 175 a Q := ⟨h⟩

set_option maxRecDepth 100000 in
theorem tx155 {bs : List UInt8} {n : Int} (hb : bs.length ≤ 10000000 := by first | assumption | omega | (simp; done) | (simp; omega)) : T 155 [aO bs, aI n] [vE (ptU bs n)] [none, none] := by
  refine w_call md [] Tryz.func155 rfl ?_
  have hc := clN_le n
  have hlen := uenc_len hc
  repeat' ((conv => whnf); (first | refine k0 ?_ | refine jA fun _ => ?_ | refine jB fun _ => ?_ | refine kC (fun _ => ?_) fun _ => ?_ | (apply cx175; refine kl tx175 ?_) | refine jst ?_ | exact ⟨rfl, rfl⟩ | exact jV | fail))
  conv => whnf
  refine loopk (ι := Nat × List UInt8) (fun i => i.2 ++ uenc i.1 = ptU bs n ∧ i.1 ≤ 1000000) (fun i => i.1) ((clN n, bs)) [] (fun i => [(0, rE 2 i.2), (1, .v false [i6 i.1])]) [some fun _ => none, none, some fun i => nE i.2] ?_
  refine ⟨⟨rfl, hc⟩, ?_, fun ⟨m, l⟩ hi => ?_⟩
  · exact w_autoX [] (by (conv => whnf); exact And.intro (by kernel_rfl) (And.intro (by kernel_rfl) (by repeat' (first | (with_reducible exact rfl) | ((conv => whnf); first | exact trivial | exact tvi (cl_eq n) | exact rfl | exact tvi (by first | omega | (dsimp only; omega) | (simp; done)) | exact tvr (by first | omega | (dsimp only; omega) | (simp; done) | (simp; omega)) | exact ⟨rfl, clo_i, by first | rfl | rw [List.take_length] | assumption⟩ | refine And.intro ?_ ?_)))))
  · dsimp only at hi ⊢
    have hll : l.length ≤ bs.length + 3 := by have := congrArg List.length hi.1; simp at this; omega
    refine ⟨fun hlt => ?_, fun hge => ?_⟩
    · dsimp only at hlt
      repeat' ((conv => whnf); (first | refine And.intro (by decide) (Exists.intro ((m % 128 : Nat) : Int) (And.intro (by rw [Int.tmod_eq_emod_of_nonneg (by omega)]; rfl) ?_)) | refine Exists.intro ((m % 128 + 128 : Nat) : Int) (And.intro ((i64_in _ (by omega)).trans (by omega)) ?_) | refine Exists.intro _ (And.intro (u8n _) ?_) | refine And.intro (by decide) (Exists.intro _ (And.intro (quo128 m (by omega)) ?_)) | refine jap (apB ?_) | refine k0 ?_ | refine jA fun _ => ?_ | refine jB fun _ => ?_ | refine kC (fun _ => ?_) fun _ => ?_ | (apply cx175; refine kl tx175 ?_) | refine jst ?_ | exact ⟨rfl, rfl⟩ | exact jV | fail))
      refine ⟨⟨(m / 128, l ++ [UInt8.ofNat (m % 128 + 128)]), by rw [List.append_assoc, List.singleton_append, ← uenc_big (by omega)]; exact hi.1, by simp only; omega⟩, by simp only; omega, ?_⟩
      dsimp only
      exact jw []
    · dsimp only at hge
      repeat' ((conv => whnf); (first | refine Exists.intro _ (And.intro (u8n _) ?_) | refine jap (apB ?_) | refine k0 ?_ | refine jA fun _ => ?_ | refine jB fun _ => ?_ | refine kC (fun _ => ?_) fun _ => ?_ | (apply cx175; refine kl tx175 ?_) | refine jst ?_ | exact ⟨rfl, rfl⟩ | exact jV | fail))
      exact ⟨by rw [← hi.1, uenc_small (by omega)], rfl⟩

theorem cx155 {P : Program} {X : FuncId → List Arg → List (Bool × List Cell) → List (Option (List Cell)) → Prop} {a : List Arg} {Q : List (Bool × List Cell) → List (Option (List Cell)) → Prop} (h : ∃ b vals outs, a = b ∧ D P X (.call 155 b vals outs) ∧ Q vals outs) : CallS P X 155 a Q := ⟨h⟩

set_option maxRecDepth 100000 in
theorem tx157 {bs : List UInt8} {s : ByteArray} (hb : bs.length ≤ 10000000 := by first | assumption | omega | (simp; done) | (simp; omega)) (hs : s.size ≤ 10000000 := by first | assumption | omega | (simp; done) | (simp; omega)) : T 157 [aO bs, aS s] [vE (ptT bs (bl s))] [none, none] := by
  refine w_call md [] Tryz.func157 rfl ?_
  have hlen := uenc_len (clN_le s.size)
  have hsz := bl_len s
  repeat' ((conv => whnf); (first | refine jap (apE ?_) src_str | refine k0 ?_ | refine jA fun _ => ?_ | refine jB fun _ => ?_ | refine kC (fun _ => ?_) fun _ => ?_ | (apply cx155; refine kl tx155 ?_) | refine jst ?_ | exact ⟨rfl, rfl⟩ | exact jV | fail))

theorem cx157 {P : Program} {X : FuncId → List Arg → List (Bool × List Cell) → List (Option (List Cell)) → Prop} {a : List Arg} {Q : List (Bool × List Cell) → List (Option (List Cell)) → Prop} (h : ∃ b vals outs, a = b ∧ D P X (.call 157 b vals outs) ∧ Q vals outs) : CallS P X 157 a Q := ⟨h⟩

set_option maxRecDepth 100000 in
theorem tx198 {bs : List UInt8} (hb : bs.length ≤ 10000000 := by first | assumption | omega | (simp; done) | (simp; omega)) : T 198 [aE bs] [vE bs] [none] := by
  refine w_call md [] Tryz.func198 rfl ?_
  repeat' ((conv => whnf); (first | refine Exists.intro _ (Exists.intro (cs true (_ : List UInt8)) (And.intro rfl (And.intro ⟨bgb (by omega), bg1 (by omega)⟩ ?_))) | refine k0 ?_ | refine jA fun _ => ?_ | refine jB fun _ => ?_ | refine kC (fun _ => ?_) fun _ => ?_ | refine jst ?_ | exact ⟨rfl, rfl⟩ | exact jV | fail))

theorem cx198 {P : Program} {X : FuncId → List Arg → List (Bool × List Cell) → List (Option (List Cell)) → Prop} {a : List Arg} {Q : List (Bool × List Cell) → List (Option (List Cell)) → Prop} (h : ∃ b vals outs, a = b ∧ D P X (.call 198 b vals outs) ∧ Q vals outs) : CallS P X 198 a Q := ⟨h⟩

set_option maxRecDepth 100000 in
theorem tx146 {bs : List UInt8} {n : Int} (hb : bs.length ≤ 10000000 := by first | assumption | omega | (simp; done) | (simp; omega)) : T 146 [aE bs, aI n] [vE (ptU bs n)] [none, none] := by
  refine w_call md [] Tryz.func146 rfl ?_
  have hc := clN_le n
  have hlen := uenc_len hc
  have hcl := cl_eq n
  unfold clampI at hcl
  repeat' ((conv => whnf); (first | refine Exists.intro _ (Exists.intro (cs true (_ : List UInt8)) (And.intro rfl (And.intro ⟨Nat.le_refl _, bgb (by omega), bg (by omega)⟩ (Exists.intro _ (And.intro ape (Exists.intro _ (And.intro (Nat.zero_add _) ?_))))))) | refine k0 ?_ | refine jA fun _ => ?_ | refine jB fun _ => ?_ | refine kC (fun _ => ?_) fun _ => ?_ | refine jst ?_ | exact ⟨rfl, rfl⟩ | exact jV | fail))
  all_goals
    conv => whnf
    refine loopk (ι := Nat × List UInt8) (fun i => i.2 ++ uenc i.1 = ptU bs n ∧ i.1 ≤ 1000000) (fun i => i.1) ((clN n, bs)) [] (fun i => [(5, rE 2 i.2), (1, .v false [i6 i.1])]) [none, none, some fun i => nE i.2] ?_
    refine ⟨⟨rfl, hc⟩, ?_, fun ⟨m, l⟩ hi => ?_⟩
    · exact jw []
    · dsimp only at hi ⊢
      have hll : l.length ≤ bs.length + 3 := by have := congrArg List.length hi.1; simp at this; omega
      refine ⟨fun hlt => ?_, fun hge => ?_⟩
      · dsimp only at hlt
        repeat' ((conv => whnf); (first | refine Exists.intro _ (And.intro (and127 (m := m) (by omega)) ?_) | refine Exists.intro _ (And.intro (or128 (m := m % 128) (by omega)) ?_) | refine Exists.intro _ (And.intro (u8n _) ?_) | refine And.intro (by decide) (Exists.intro _ (And.intro (shrN m 7) ?_)) | refine jap (apB ?_) | refine k0 ?_ | refine jA fun _ => ?_ | refine jB fun _ => ?_ | refine kC (fun _ => ?_) fun _ => ?_ | refine jst ?_ | exact ⟨rfl, rfl⟩ | exact jV | fail))
        refine ⟨⟨(m / 128, l ++ [UInt8.ofNat (m % 128 + 128)]), by rw [List.append_assoc, List.singleton_append, ← uenc_big (by omega)]; exact hi.1, by simp only; omega⟩, by simp only; omega, ?_⟩
        dsimp only
        exact jw []
      · dsimp only at hge
        repeat' ((conv => whnf); (first | refine Exists.intro _ (And.intro (u8n _) ?_) | refine jap (apB ?_) | refine k0 ?_ | refine jA fun _ => ?_ | refine jB fun _ => ?_ | refine kC (fun _ => ?_) fun _ => ?_ | refine jst ?_ | exact ⟨rfl, rfl⟩ | exact jV | fail))
        exact ⟨by rw [← hi.1, uenc_small (by omega)], rfl⟩

theorem cx146 {P : Program} {X : FuncId → List Arg → List (Bool × List Cell) → List (Option (List Cell)) → Prop} {a : List Arg} {Q : List (Bool × List Cell) → List (Option (List Cell)) → Prop} (h : ∃ b vals outs, a = b ∧ D P X (.call 146 b vals outs) ∧ Q vals outs) : CallS P X 146 a Q := ⟨h⟩

end Go.Proofs.YtopnaijeicknoaaGreatDoor
