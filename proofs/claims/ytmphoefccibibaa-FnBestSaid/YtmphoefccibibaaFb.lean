/- Functions of the program, each with what it gives back. -/
import Derived.Test.YtmphoefccibibaaKe
import Derived.Test.YtmphoefccibibaaChecked
import Derived.IntWalk
import Derived.Test.YtmphoefccibibaaFa
namespace Go.Proofs.Ytmphoefccibibaa
open Go Go.RowKit Go.IntWalk
open Enc (sz cs)
attribute [local irreducible] IntKind.wrap

set_option maxRecDepth 100000 in
theorem tx57 {n l h : Int} : T 57 [aI n, aI l, aI h] [vI (max l (min n h))] [none, none, none] := by
  refine w_call md [] Try.func57 rfl ?_
  repeat' ((conv => whnf); (first | refine Exists.intro (min n h) (And.intro (by omega) ?_) | refine Exists.intro (max l (min n h)) (And.intro (by omega) ?_) | refine k0 ?_ | refine jA fun _ => ?_ | refine jB fun _ => ?_ | refine kC (fun _ => ?_) fun _ => ?_ | refine jS ?_ | refine jI ?_ | refine jD ?_ | refine ⟨snc, _, snr, ?_⟩ | refine ⟨⟨Nat.le_refl _, rfl⟩, [], rfl, ?_⟩ | refine And.intro ⟨rfl, rfl, by decide, rfl⟩ ?_ | refine jP ?_ | refine jO ?_ | refine jX ?_ | refine jb jr ?_ | refine jb ofs ?_ | refine ko jc ?_ | refine ko jp ?_ | refine jM ?_ | refine kr ?_ | refine ko rfl ?_ | refine And.intro (cs_shal _) ?_ | refine And.intro (rfl : List.all _ _ = true) ?_ | refine And.intro ⟨rfl, (rfl : List.all _ _ = true)⟩ ?_ | exact ⟨rfl, rfl⟩ | exact jV | fail))

theorem cx57 {P : Program} {X : FuncId → List Arg → List (Bool × List Cell) → List (Option (List Cell)) → Prop} {a : List Arg} {Q : List (Bool × List Cell) → List (Option (List Cell)) → Prop} (h : ∃ b vals outs, a = b ∧ D P X (.call 57 b vals outs) ∧ Q vals outs) : CallS P X 57 a Q := ⟨h⟩

set_option maxRecDepth 100000 in
theorem tx40 {bs : List UInt8} {n : Int} (hb : bs.length ≤ 10000000 := by first | assumption | omega | (simp; done) | (simp; omega)) : T 40 [aO bs, aI n] [vE (ptU bs n)] [none, none] := by
  refine w_call md [] Try.func40 rfl ?_
  have hc := clN_le n
  have hlen := uenc_len hc
  repeat' ((conv => whnf); (first | refine k0 ?_ | refine jA fun _ => ?_ | refine jB fun _ => ?_ | refine kC (fun _ => ?_) fun _ => ?_ | refine jS ?_ | refine jI ?_ | (apply cx57; refine kl tx57 ?_) | refine jD ?_ | refine ⟨snc, _, snr, ?_⟩ | refine ⟨⟨Nat.le_refl _, rfl⟩, [], rfl, ?_⟩ | refine And.intro ⟨rfl, rfl, by decide, rfl⟩ ?_ | refine jP ?_ | refine jO ?_ | refine jX ?_ | refine jb jr ?_ | refine jb ofs ?_ | refine ko jc ?_ | refine ko jp ?_ | refine jM ?_ | refine kr ?_ | refine ko rfl ?_ | refine And.intro (cs_shal _) ?_ | refine And.intro (rfl : List.all _ _ = true) ?_ | refine And.intro ⟨rfl, (rfl : List.all _ _ = true)⟩ ?_ | exact ⟨rfl, rfl⟩ | exact jV | fail))
  conv => whnf
  refine loopk (ι := Nat × List UInt8) (fun i => i.2 ++ uenc i.1 = ptU bs n ∧ i.1 ≤ 1000000) (fun i => i.1) ((clN n, bs)) [] (fun i => [(0, rE 2 i.2), (1, .v false [i6 i.1])]) [some fun _ => none, none, some fun i => nE i.2] ?_
  refine ⟨⟨rfl, hc⟩, ?_, fun ⟨m, l⟩ hi => ?_⟩
  · exact w_autoX [] (by (conv => whnf); exact And.intro (by kernel_rfl) (And.intro (by kernel_rfl) (by repeat' (first | (with_reducible exact rfl) | ((conv => whnf); first | exact trivial | exact tvi (cl_eq n) | exact rfl | exact tvi (by first | omega | (dsimp only; omega) | (simp; done)) | exact tvr (by first | omega | (dsimp only; omega) | (simp; done) | (simp; omega)) | exact ⟨rfl, clo_i, by first | rfl | rw [List.take_length] | assumption⟩ | refine And.intro ?_ ?_)))))
  · dsimp only at hi ⊢
    have hll : l.length ≤ bs.length + 3 := by have := congrArg List.length hi.1; simp at this; omega
    refine ⟨fun hlt => ?_, fun hge => ?_⟩
    · dsimp only at hlt
      repeat' ((conv => whnf); (first | refine And.intro (by decide) (Exists.intro ((m % 128 : Nat) : Int) (And.intro (by rw [Int.tmod_eq_emod_of_nonneg (by omega)]; rfl) ?_)) | refine Exists.intro ((m % 128 + 128 : Nat) : Int) (And.intro ((i64_in _ (by omega)).trans (by omega)) ?_) | refine Exists.intro _ (And.intro (u8n _) ?_) | refine And.intro (by decide) (Exists.intro _ (And.intro (quo128 m (by omega)) ?_)) | refine jap (apB ?_) | refine k0 ?_ | refine jA fun _ => ?_ | refine jB fun _ => ?_ | refine kC (fun _ => ?_) fun _ => ?_ | refine jS ?_ | refine jI ?_ | (apply cx57; refine kl tx57 ?_) | refine jD ?_ | refine ⟨snc, _, snr, ?_⟩ | refine ⟨⟨Nat.le_refl _, rfl⟩, [], rfl, ?_⟩ | refine And.intro ⟨rfl, rfl, by decide, rfl⟩ ?_ | refine jP ?_ | refine jO ?_ | refine jX ?_ | refine jb jr ?_ | refine jb ofs ?_ | refine ko jc ?_ | refine ko jp ?_ | refine jM ?_ | refine kr ?_ | refine ko rfl ?_ | refine And.intro (cs_shal _) ?_ | refine And.intro (rfl : List.all _ _ = true) ?_ | refine And.intro ⟨rfl, (rfl : List.all _ _ = true)⟩ ?_ | exact ⟨rfl, rfl⟩ | exact jV | fail))
      refine ⟨⟨(m / 128, l ++ [UInt8.ofNat (m % 128 + 128)]), by rw [List.append_assoc, List.singleton_append, ← uenc_big (by omega)]; exact hi.1, by simp only; omega⟩, by simp only; omega, ?_⟩
      dsimp only
      exact jw []
    · dsimp only at hge
      repeat' ((conv => whnf); (first | refine Exists.intro _ (And.intro (u8n _) ?_) | refine jap (apB ?_) | refine k0 ?_ | refine jA fun _ => ?_ | refine jB fun _ => ?_ | refine kC (fun _ => ?_) fun _ => ?_ | refine jS ?_ | refine jI ?_ | (apply cx57; refine kl tx57 ?_) | refine jD ?_ | refine ⟨snc, _, snr, ?_⟩ | refine ⟨⟨Nat.le_refl _, rfl⟩, [], rfl, ?_⟩ | refine And.intro ⟨rfl, rfl, by decide, rfl⟩ ?_ | refine jP ?_ | refine jO ?_ | refine jX ?_ | refine jb jr ?_ | refine jb ofs ?_ | refine ko jc ?_ | refine ko jp ?_ | refine jM ?_ | refine kr ?_ | refine ko rfl ?_ | refine And.intro (cs_shal _) ?_ | refine And.intro (rfl : List.all _ _ = true) ?_ | refine And.intro ⟨rfl, (rfl : List.all _ _ = true)⟩ ?_ | exact ⟨rfl, rfl⟩ | exact jV | fail))
      exact ⟨by rw [← hi.1, uenc_small (by omega)], rfl⟩

theorem cx40 {P : Program} {X : FuncId → List Arg → List (Bool × List Cell) → List (Option (List Cell)) → Prop} {a : List Arg} {Q : List (Bool × List Cell) → List (Option (List Cell)) → Prop} (h : ∃ b vals outs, a = b ∧ D P X (.call 40 b vals outs) ∧ Q vals outs) : CallS P X 40 a Q := ⟨h⟩

set_option maxRecDepth 100000 in
theorem tx55 {bs : List UInt8} {s : ByteArray} (hb : bs.length ≤ 10000000 := by first | assumption | omega | (simp; done) | (simp; omega)) (hs : s.size ≤ 10000000 := by first | assumption | omega | (simp; done) | (simp; omega)) : T 55 [aO bs, aS s] [vE (ptT bs (bl s))] [none, none] := by
  refine w_call md [] Try.func55 rfl ?_
  have hlen := uenc_len (clN_le s.size)
  have hsz := bl_len s
  repeat' ((conv => whnf); (first | refine jap (apE ?_) src_str | refine k0 ?_ | refine jA fun _ => ?_ | refine jB fun _ => ?_ | refine kC (fun _ => ?_) fun _ => ?_ | refine jS ?_ | refine jI ?_ | (apply cx40; refine kl tx40 ?_) | refine jD ?_ | refine ⟨snc, _, snr, ?_⟩ | refine ⟨⟨Nat.le_refl _, rfl⟩, [], rfl, ?_⟩ | refine And.intro ⟨rfl, rfl, by decide, rfl⟩ ?_ | refine jP ?_ | refine jO ?_ | refine jX ?_ | refine jb jr ?_ | refine jb ofs ?_ | refine ko jc ?_ | refine ko jp ?_ | refine jM ?_ | refine kr ?_ | refine ko rfl ?_ | refine And.intro (cs_shal _) ?_ | refine And.intro (rfl : List.all _ _ = true) ?_ | refine And.intro ⟨rfl, (rfl : List.all _ _ = true)⟩ ?_ | exact ⟨rfl, rfl⟩ | exact jV | fail))

theorem cx55 {P : Program} {X : FuncId → List Arg → List (Bool × List Cell) → List (Option (List Cell)) → Prop} {a : List Arg} {Q : List (Bool × List Cell) → List (Option (List Cell)) → Prop} (h : ∃ b vals outs, a = b ∧ D P X (.call 55 b vals outs) ∧ Q vals outs) : CallS P X 55 a Q := ⟨h⟩

set_option maxRecDepth 100000 in
theorem tx20 {bs : List UInt8} (hb : bs.length ≤ 10000000 := by first | assumption | omega | (simp; done) | (simp; omega)) : T 20 [aE bs] [vE bs] [none] := by
  refine w_call md [] Try.func20 rfl ?_
  repeat' ((conv => whnf); (first | refine Exists.intro _ (Exists.intro (cs true (_ : List UInt8)) (And.intro rfl (And.intro ⟨bgb (by omega), bg1 (by omega)⟩ ?_))) | refine k0 ?_ | refine jA fun _ => ?_ | refine jB fun _ => ?_ | refine kC (fun _ => ?_) fun _ => ?_ | refine jS ?_ | refine jI ?_ | refine jD ?_ | refine ⟨snc, _, snr, ?_⟩ | refine ⟨⟨Nat.le_refl _, rfl⟩, [], rfl, ?_⟩ | refine And.intro ⟨rfl, rfl, by decide, rfl⟩ ?_ | refine jP ?_ | refine jO ?_ | refine jX ?_ | refine jb jr ?_ | refine jb ofs ?_ | refine ko jc ?_ | refine ko jp ?_ | refine jM ?_ | refine kr ?_ | refine ko rfl ?_ | refine And.intro (cs_shal _) ?_ | refine And.intro (rfl : List.all _ _ = true) ?_ | refine And.intro ⟨rfl, (rfl : List.all _ _ = true)⟩ ?_ | exact ⟨rfl, rfl⟩ | exact jV | fail))

theorem cx20 {P : Program} {X : FuncId → List Arg → List (Bool × List Cell) → List (Option (List Cell)) → Prop} {a : List Arg} {Q : List (Bool × List Cell) → List (Option (List Cell)) → Prop} (h : ∃ b vals outs, a = b ∧ D P X (.call 20 b vals outs) ∧ Q vals outs) : CallS P X 20 a Q := ⟨h⟩

set_option maxRecDepth 100000 in
theorem tx35 {bs : List UInt8} {n : Int} (hb : bs.length ≤ 10000000 := by first | assumption | omega | (simp; done) | (simp; omega)) : T 35 [aE bs, aI n] [vE (ptU bs n)] [none, none] := by
  refine w_call md [] Try.func35 rfl ?_
  have hc := clN_le n
  have hlen := uenc_len hc
  have hcl := cl_eq n
  unfold clampI at hcl
  repeat' ((conv => whnf); (first | refine Exists.intro _ (Exists.intro (cs true (_ : List UInt8)) (And.intro rfl (And.intro ⟨Nat.le_refl _, bgb (by omega), bg (by omega)⟩ (Exists.intro _ (And.intro ape (Exists.intro _ (And.intro (Nat.zero_add _) ?_))))))) | refine k0 ?_ | refine jA fun _ => ?_ | refine jB fun _ => ?_ | refine kC (fun _ => ?_) fun _ => ?_ | refine jS ?_ | refine jI ?_ | refine jD ?_ | refine ⟨snc, _, snr, ?_⟩ | refine ⟨⟨Nat.le_refl _, rfl⟩, [], rfl, ?_⟩ | refine And.intro ⟨rfl, rfl, by decide, rfl⟩ ?_ | refine jP ?_ | refine jO ?_ | refine jX ?_ | refine jb jr ?_ | refine jb ofs ?_ | refine ko jc ?_ | refine ko jp ?_ | refine jM ?_ | refine kr ?_ | refine ko rfl ?_ | refine And.intro (cs_shal _) ?_ | refine And.intro (rfl : List.all _ _ = true) ?_ | refine And.intro ⟨rfl, (rfl : List.all _ _ = true)⟩ ?_ | exact ⟨rfl, rfl⟩ | exact jV | fail))
  all_goals
    conv => whnf
    refine loopk (ι := Nat × List UInt8) (fun i => i.2 ++ uenc i.1 = ptU bs n ∧ i.1 ≤ 1000000) (fun i => i.1) ((clN n, bs)) [] (fun i => [(5, rE 2 i.2), (1, .v false [i6 i.1])]) [none, none, some fun i => nE i.2] ?_
    refine ⟨⟨rfl, hc⟩, ?_, fun ⟨m, l⟩ hi => ?_⟩
    · exact jw []
    · dsimp only at hi ⊢
      have hll : l.length ≤ bs.length + 3 := by have := congrArg List.length hi.1; simp at this; omega
      refine ⟨fun hlt => ?_, fun hge => ?_⟩
      · dsimp only at hlt
        repeat' ((conv => whnf); (first | refine Exists.intro _ (And.intro (and127 (m := m) (by omega)) ?_) | refine Exists.intro _ (And.intro (or128 (m := m % 128) (by omega)) ?_) | refine Exists.intro _ (And.intro (u8n _) ?_) | refine And.intro (by decide) (Exists.intro _ (And.intro (shrN m 7) ?_)) | refine jap (apB ?_) | refine k0 ?_ | refine jA fun _ => ?_ | refine jB fun _ => ?_ | refine kC (fun _ => ?_) fun _ => ?_ | refine jS ?_ | refine jI ?_ | refine jD ?_ | refine ⟨snc, _, snr, ?_⟩ | refine ⟨⟨Nat.le_refl _, rfl⟩, [], rfl, ?_⟩ | refine And.intro ⟨rfl, rfl, by decide, rfl⟩ ?_ | refine jP ?_ | refine jO ?_ | refine jX ?_ | refine jb jr ?_ | refine jb ofs ?_ | refine ko jc ?_ | refine ko jp ?_ | refine jM ?_ | refine kr ?_ | refine ko rfl ?_ | refine And.intro (cs_shal _) ?_ | refine And.intro (rfl : List.all _ _ = true) ?_ | refine And.intro ⟨rfl, (rfl : List.all _ _ = true)⟩ ?_ | exact ⟨rfl, rfl⟩ | exact jV | fail))
        refine ⟨⟨(m / 128, l ++ [UInt8.ofNat (m % 128 + 128)]), by rw [List.append_assoc, List.singleton_append, ← uenc_big (by omega)]; exact hi.1, by simp only; omega⟩, by simp only; omega, ?_⟩
        dsimp only
        exact jw []
      · dsimp only at hge
        repeat' ((conv => whnf); (first | refine Exists.intro _ (And.intro (u8n _) ?_) | refine jap (apB ?_) | refine k0 ?_ | refine jA fun _ => ?_ | refine jB fun _ => ?_ | refine kC (fun _ => ?_) fun _ => ?_ | refine jS ?_ | refine jI ?_ | refine jD ?_ | refine ⟨snc, _, snr, ?_⟩ | refine ⟨⟨Nat.le_refl _, rfl⟩, [], rfl, ?_⟩ | refine And.intro ⟨rfl, rfl, by decide, rfl⟩ ?_ | refine jP ?_ | refine jO ?_ | refine jX ?_ | refine jb jr ?_ | refine jb ofs ?_ | refine ko jc ?_ | refine ko jp ?_ | refine jM ?_ | refine kr ?_ | refine ko rfl ?_ | refine And.intro (cs_shal _) ?_ | refine And.intro (rfl : List.all _ _ = true) ?_ | refine And.intro ⟨rfl, (rfl : List.all _ _ = true)⟩ ?_ | exact ⟨rfl, rfl⟩ | exact jV | fail))
        exact ⟨by rw [← hi.1, uenc_small (by omega)], rfl⟩

theorem cx35 {P : Program} {X : FuncId → List Arg → List (Bool × List Cell) → List (Option (List Cell)) → Prop} {a : List Arg} {Q : List (Bool × List Cell) → List (Option (List Cell)) → Prop} (h : ∃ b vals outs, a = b ∧ D P X (.call 35 b vals outs) ∧ Q vals outs) : CallS P X 35 a Q := ⟨h⟩

end Go.Proofs.Ytmphoefccibibaa
