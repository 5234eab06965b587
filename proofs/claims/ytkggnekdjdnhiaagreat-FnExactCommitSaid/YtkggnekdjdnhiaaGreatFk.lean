/- Functions of the program, each with what it gives back. -/
import Derived.Test.YtkggnekdjdnhiaaGreatKe
import Derived.Test.YtkggnekdjdnhiaaGreatChecked
import Derived.IntWalk
import Derived.Test.YtkggnekdjdnhiaaGreatFj
namespace Go.Proofs.YtkggnekdjdnhiaaGreat
open Go Go.RowKit Go.IntWalk
open Enc (sz cs)
attribute [local irreducible] IntKind.wrap

attribute [local irreducible] gU gT gS gP gM ptP ptM ptS crcN rdS

set_option maxRecDepth 100000 in
theorem tx151 {l : List ByteArray} (hl : l.length ≤ 10000000 := by first | assumption | omega | (simp; done) | (simp; omega)) : T 151 [aE l] [vE l] [none] := by
  refine w_call md [[1]] Tryz.func151 rfl ?_
  repeat' ((conv => whnf); (first | refine Exists.intro _ (Exists.intro (cs true (_ : List ByteArray)) (And.intro rfl (And.intro ⟨bgb (by omega), bg1 (by omega)⟩ ?_))) | refine k0 ?_ | refine jA fun _ => ?_ | refine jB fun _ => ?_ | refine kC (fun _ => ?_) fun _ => ?_ | refine jst ?_ | exact ⟨rfl, rfl⟩ | exact jV | fail))

theorem cx151 {P : Program} {X : FuncId → List Arg → List (Bool × List Cell) → List (Option (List Cell)) → Prop} {a : List Arg} {Q : List (Bool × List Cell) → List (Option (List Cell)) → Prop} (h : ∃ b vals outs, a = b ∧ D P X (.call 151 b vals outs) ∧ Q vals outs) : CallS P X 151 a Q := ⟨h⟩

set_option maxRecDepth 100000 in
theorem tx152 {l : List Int} (hl : l.length ≤ 10000000 := by first | assumption | omega | (simp; done) | (simp; omega)) : T 152 [aE l] [vE l] [none] := by
  refine w_call md [[1]] Tryz.func152 rfl ?_
  repeat' ((conv => whnf); (first | refine Exists.intro _ (Exists.intro (cs true (_ : List Int)) (And.intro rfl (And.intro ⟨bgb (by omega), bg1 (by omega)⟩ ?_))) | refine k0 ?_ | refine jA fun _ => ?_ | refine jB fun _ => ?_ | refine kC (fun _ => ?_) fun _ => ?_ | refine jst ?_ | exact ⟨rfl, rfl⟩ | exact jV | fail))

theorem cx152 {P : Program} {X : FuncId → List Arg → List (Bool × List Cell) → List (Option (List Cell)) → Prop} {a : List Arg} {Q : List (Bool × List Cell) → List (Option (List Cell)) → Prop} (h : ∃ b vals outs, a = b ∧ D P X (.call 152 b vals outs) ∧ Q vals outs) : CallS P X 152 a Q := ⟨h⟩

set_option maxRecDepth 100000 in
theorem tx131 {x : Nod} (hx : zN x ≤ 2000000 := by first | assumption | omega | (simp; done) | (simp; omega)) : T 131 [.val true (nodC false x)] [(true, nodC true x)] [none] := by
  refine w_call md [[]] Tryz.func131 rfl ?_
  obtain ⟨h1, h2, h3⟩ := OkN.of hx
  repeat' ((conv => whnf); (first | refine k0 ?_ | refine jA fun _ => ?_ | refine jB fun _ => ?_ | refine kC (fun _ => ?_) fun _ => ?_ | (apply cx151; refine kl tx151 ?_) | (apply cx152; refine kl tx152 ?_) | refine jst ?_ | exact ⟨rfl, rfl⟩ | exact jV | fail))

theorem cx131 {P : Program} {X : FuncId → List Arg → List (Bool × List Cell) → List (Option (List Cell)) → Prop} {a : List Arg} {Q : List (Bool × List Cell) → List (Option (List Cell)) → Prop} (h : ∃ b vals outs, a = b ∧ D P X (.call 131 b vals outs) ∧ Q vals outs) : CallS P X 131 a Q := ⟨h⟩

set_option maxRecDepth 100000 in
theorem tx139 {x : Nod} (hx : zN x ≤ 2000000 := by first | assumption | omega | (simp; done) | (simp; omega)) : T 139 [.val true (nodC false x)] [(true, nodC true x)] [none] := by
  refine w_call md [[]] Tryz.func139 rfl ?_
  obtain ⟨h1, h2, h3⟩ := OkN.of hx
  repeat' ((conv => whnf); (first | refine Exists.intro _ (Exists.intro (cs true (_ : List ByteArray)) (And.intro rfl (And.intro ⟨Nat.le_refl _, bgb (by omega), bg (by omega)⟩ (Exists.intro _ (And.intro ape (Exists.intro _ (And.intro (Nat.zero_add _) ?_))))))) | refine Exists.intro _ (Exists.intro (cs true (_ : List Int)) (And.intro rfl (And.intro ⟨Nat.le_refl _, bgb (by omega), bg (by omega)⟩ (Exists.intro _ (And.intro ape (Exists.intro _ (And.intro (Nat.zero_add _) ?_))))))) | refine k0 ?_ | refine jA fun _ => ?_ | refine jB fun _ => ?_ | refine kC (fun _ => ?_) fun _ => ?_ | refine jst ?_ | exact ⟨rfl, rfl⟩ | exact jV | fail))

theorem cx139 {P : Program} {X : FuncId → List Arg → List (Bool × List Cell) → List (Option (List Cell)) → Prop} {a : List Arg} {Q : List (Bool × List Cell) → List (Option (List Cell)) → Prop} (h : ∃ b vals outs, a = b ∧ D P X (.call 139 b vals outs) ∧ Q vals outs) : CallS P X 139 a Q := ⟨h⟩

set_option maxHeartbeats 2000000 in
set_option maxRecDepth 100000 in
theorem tx114 {x : Nod} (hx : zN x ≤ 2000000 := by first | assumption | omega | (simp; done) | (simp; omega)) : T 114 [.val true (nodC false x)] [vE (bdN x)] [none] := by
  obtain ⟨leaf, keys, vals, kids⟩ := x
  have hz : keys.length + cnt ByteArray.size keys + (vals.length + cnt ByteArray.size vals) + kids.length ≤ 2000000 := hx
  have hK := fmX_take keys
  have hV := fmX_take vals
  have hI := fmI_take kids
  have hu := uenc_len (clN_le keys.length)
  dsimp only [nodC]
  refine w_call md [] Tryz.func114 rfl ?_
  cases leaf
  · repeat' ((conv => whnf); (first | refine Exists.intro _ (Exists.intro (cs true [(0 : UInt8)]) (And.intro rfl (And.intro ⟨bgb (by omega), bg1 (by omega)⟩ ?_))) | (apply cx113; refine kl (tx113 (bs := [0])) ?_) | refine k0 ?_ | refine jA fun _ => ?_ | refine jB fun _ => ?_ | refine kC (fun _ => ?_) fun _ => ?_ | (apply cx113; refine kl tx113 ?_) | (apply cx112; refine kl tx112 ?_) | refine jst ?_ | exact ⟨rfl, rfl⟩ | exact jV | fail))
    conv => whnf
    refine loopk (ι := Nat) (fun i => i ≤ keys.length) (fun i => keys.length - i) (0) [1, 24, 25] (fun i => [(3, rE 2 (hdN false keys.length ++ fm ptX (keys.take i))), (26, .v false [i6 i])]) [none, none, some fun i => nE (hdN false keys.length ++ fm ptX (keys.take i))] ?_
    refine ⟨by omega, ?_, fun i hi => ?_⟩
    · have e : ptU [0] keys.length = hdN false keys.length ++ fm ptX (keys.take 0) := fm_0
      exact w_autoX [] (by (conv => whnf); exact And.intro (by kernel_rfl) (And.intro (by kernel_rfl) (by repeat' (first | (with_reducible exact rfl) | ((conv => whnf); first | exact trivial | exact ⟨rfl, clo_i, congrArg (cs true) e⟩ | exact tvr (congrArg List.length e) | exact rfl | exact tvi (by first | omega | (dsimp only; omega) | (simp; done)) | exact tvr (by first | omega | (dsimp only; omega) | (simp; done) | (simp; omega)) | exact ⟨rfl, clo_i, by first | rfl | rw [List.take_length] | assumption⟩ | refine And.intro ?_ ?_)))))
    · have hKi := hK i
      refine ⟨fun hlt => ?_, fun hge => ?_⟩
      · have hi2 : i < keys.length := by omega
        have hc := cnt_ge (c := ByteArray.size) hi2
        repeat' ((conv => whnf); (first | refine k0 ?_ | refine jA fun _ => ?_ | refine jB fun _ => ?_ | refine kC (fun _ => ?_) fun _ => ?_ | (apply cx113; refine kl tx113 ?_) | (apply cx112; refine kl tx112 ?_) | refine jst ?_ | exact ⟨rfl, rfl⟩ | exact jV | fail))
        have e := pt_fm (H := hdN false keys.length) hi2
        refine ⟨⟨i + 1, by omega⟩, by simp only; omega, ?_⟩
        exact w_autoX [] (by (conv => whnf); exact And.intro (by kernel_rfl) (And.intro (by kernel_rfl) (by repeat' (first | (with_reducible exact rfl) | ((conv => whnf); first | exact trivial | exact ⟨rfl, clo_i, congrArg (cs true) e⟩ | exact tvr (congrArg List.length e) | exact rfl | exact tvi (by first | omega | (dsimp only; omega) | (simp; done)) | exact tvr (by first | omega | (dsimp only; omega) | (simp; done) | (simp; omega)) | exact ⟨rfl, clo_i, by first | rfl | rw [List.take_length] | assumption⟩ | refine And.intro ?_ ?_)))))
      · obtain rfl : i = keys.length := by omega
        repeat' ((conv => whnf); (first | refine k0 ?_ | refine jA fun _ => ?_ | refine jB fun _ => ?_ | refine kC (fun _ => ?_) fun _ => ?_ | (apply cx113; refine kl tx113 ?_) | (apply cx112; refine kl tx112 ?_) | refine jst ?_ | exact ⟨rfl, rfl⟩ | exact jV | fail))
        conv => whnf
        refine loopk (ι := Nat) (fun i => i ≤ kids.length) (fun i => kids.length - i) (0) [1, 49, 50] (fun i => [(3, rE 2 ((hdN false keys.length ++ fm ptX keys) ++ fm ptI (kids.take i))), (51, .v false [i6 i])]) [none, none, some fun i => nE ((hdN false keys.length ++ fm ptX keys) ++ fm ptI (kids.take i))] ?_
        refine ⟨by omega, ?_, fun i hi => ?_⟩
        · have e : hdN false keys.length ++ fm ptX (keys.take keys.length) = (hdN false keys.length ++ fm ptX keys) ++ fm ptI (kids.take 0) := by rw [List.take_length]; exact fm_0
          exact w_autoX [] (by (conv => whnf); exact And.intro (by kernel_rfl) (And.intro (by kernel_rfl) (by repeat' (first | (with_reducible exact rfl) | ((conv => whnf); first | exact trivial | exact ⟨rfl, clo_i, congrArg (cs true) e⟩ | exact tvr (congrArg List.length e) | exact rfl | exact tvi (by first | omega | (dsimp only; omega) | (simp; done)) | exact tvr (by first | omega | (dsimp only; omega) | (simp; done) | (simp; omega)) | exact ⟨rfl, clo_i, by first | rfl | rw [List.take_length] | assumption⟩ | refine And.intro ?_ ?_)))))
        · have hKi := (fun _ : Nat => hK keys.length) i
          rw [List.take_length] at hKi
          refine ⟨fun hlt => ?_, fun hge => ?_⟩
          · have hi2 : i < kids.length := by omega
            have hV2 := hI i
            repeat' ((conv => whnf); (first | refine k0 ?_ | refine jA fun _ => ?_ | refine jB fun _ => ?_ | refine kC (fun _ => ?_) fun _ => ?_ | (apply cx113; refine kl tx113 ?_) | (apply cx112; refine kl tx112 ?_) | refine jst ?_ | exact ⟨rfl, rfl⟩ | exact jV | fail))
            have e := pu_fm (H := (hdN false keys.length ++ fm ptX keys)) hi2
            refine ⟨⟨i + 1, by omega⟩, by simp only; omega, ?_⟩
            exact w_autoX [] (by (conv => whnf); exact And.intro (by kernel_rfl) (And.intro (by kernel_rfl) (by repeat' (first | (with_reducible exact rfl) | ((conv => whnf); first | exact trivial | exact ⟨rfl, clo_i, congrArg (cs true) e⟩ | exact tvr (congrArg List.length e) | exact rfl | exact tvi (by first | omega | (dsimp only; omega) | (simp; done)) | exact tvr (by first | omega | (dsimp only; omega) | (simp; done) | (simp; omega)) | exact ⟨rfl, clo_i, by first | rfl | rw [List.take_length] | assumption⟩ | refine And.intro ?_ ?_)))))
          · obtain rfl : i = kids.length := by omega
            repeat' ((conv => whnf); (first | refine k0 ?_ | refine jA fun _ => ?_ | refine jB fun _ => ?_ | refine kC (fun _ => ?_) fun _ => ?_ | (apply cx113; refine kl tx113 ?_) | (apply cx112; refine kl tx112 ?_) | refine jst ?_ | exact ⟨rfl, rfl⟩ | exact jV | fail))
            exact ⟨by rw [List.take_length]; rfl, rfl⟩
  · repeat' ((conv => whnf); (first | refine Exists.intro _ (Exists.intro (cs true [(1 : UInt8)]) (And.intro rfl (And.intro ⟨bgb (by omega), bg1 (by omega)⟩ ?_))) | (apply cx113; refine kl (tx113 (bs := [1])) ?_) | refine k0 ?_ | refine jA fun _ => ?_ | refine jB fun _ => ?_ | refine kC (fun _ => ?_) fun _ => ?_ | (apply cx113; refine kl tx113 ?_) | (apply cx112; refine kl tx112 ?_) | refine jst ?_ | exact ⟨rfl, rfl⟩ | exact jV | fail))
    conv => whnf
    refine loopk (ι := Nat) (fun i => i ≤ keys.length) (fun i => keys.length - i) (0) [1, 24, 25] (fun i => [(3, rE 2 (hdN true keys.length ++ fm ptX (keys.take i))), (26, .v false [i6 i])]) [none, none, some fun i => nE (hdN true keys.length ++ fm ptX (keys.take i))] ?_
    refine ⟨by omega, ?_, fun i hi => ?_⟩
    · have e : ptU [1] keys.length = hdN true keys.length ++ fm ptX (keys.take 0) := fm_0
      exact w_autoX [] (by (conv => whnf); exact And.intro (by kernel_rfl) (And.intro (by kernel_rfl) (by repeat' (first | (with_reducible exact rfl) | ((conv => whnf); first | exact trivial | exact ⟨rfl, clo_i, congrArg (cs true) e⟩ | exact tvr (congrArg List.length e) | exact rfl | exact tvi (by first | omega | (dsimp only; omega) | (simp; done)) | exact tvr (by first | omega | (dsimp only; omega) | (simp; done) | (simp; omega)) | exact ⟨rfl, clo_i, by first | rfl | rw [List.take_length] | assumption⟩ | refine And.intro ?_ ?_)))))
    · have hKi := hK i
      refine ⟨fun hlt => ?_, fun hge => ?_⟩
      · have hi2 : i < keys.length := by omega
        have hc := cnt_ge (c := ByteArray.size) hi2
        repeat' ((conv => whnf); (first | refine k0 ?_ | refine jA fun _ => ?_ | refine jB fun _ => ?_ | refine kC (fun _ => ?_) fun _ => ?_ | (apply cx113; refine kl tx113 ?_) | (apply cx112; refine kl tx112 ?_) | refine jst ?_ | exact ⟨rfl, rfl⟩ | exact jV | fail))
        have e := pt_fm (H := hdN true keys.length) hi2
        refine ⟨⟨i + 1, by omega⟩, by simp only; omega, ?_⟩
        exact w_autoX [] (by (conv => whnf); exact And.intro (by kernel_rfl) (And.intro (by kernel_rfl) (by repeat' (first | (with_reducible exact rfl) | ((conv => whnf); first | exact trivial | exact ⟨rfl, clo_i, congrArg (cs true) e⟩ | exact tvr (congrArg List.length e) | exact rfl | exact tvi (by first | omega | (dsimp only; omega) | (simp; done)) | exact tvr (by first | omega | (dsimp only; omega) | (simp; done) | (simp; omega)) | exact ⟨rfl, clo_i, by first | rfl | rw [List.take_length] | assumption⟩ | refine And.intro ?_ ?_)))))
      · obtain rfl : i = keys.length := by omega
        repeat' ((conv => whnf); (first | refine k0 ?_ | refine jA fun _ => ?_ | refine jB fun _ => ?_ | refine kC (fun _ => ?_) fun _ => ?_ | (apply cx113; refine kl tx113 ?_) | (apply cx112; refine kl tx112 ?_) | refine jst ?_ | exact ⟨rfl, rfl⟩ | exact jV | fail))
        conv => whnf
        refine loopk (ι := Nat) (fun i => i ≤ vals.length) (fun i => vals.length - i) (0) [1, 37, 38] (fun i => [(3, rE 2 ((hdN true keys.length ++ fm ptX keys) ++ fm ptX (vals.take i))), (39, .v false [i6 i])]) [none, none, some fun i => nE ((hdN true keys.length ++ fm ptX keys) ++ fm ptX (vals.take i))] ?_
        refine ⟨by omega, ?_, fun i hi => ?_⟩
        · have e : hdN true keys.length ++ fm ptX (keys.take keys.length) = (hdN true keys.length ++ fm ptX keys) ++ fm ptX (vals.take 0) := by rw [List.take_length]; exact fm_0
          exact w_autoX [] (by (conv => whnf); exact And.intro (by kernel_rfl) (And.intro (by kernel_rfl) (by repeat' (first | (with_reducible exact rfl) | ((conv => whnf); first | exact trivial | exact ⟨rfl, clo_i, congrArg (cs true) e⟩ | exact tvr (congrArg List.length e) | exact rfl | exact tvi (by first | omega | (dsimp only; omega) | (simp; done)) | exact tvr (by first | omega | (dsimp only; omega) | (simp; done) | (simp; omega)) | exact ⟨rfl, clo_i, by first | rfl | rw [List.take_length] | assumption⟩ | refine And.intro ?_ ?_)))))
        · have hKi := (fun _ : Nat => hK keys.length) i
          rw [List.take_length] at hKi
          refine ⟨fun hlt => ?_, fun hge => ?_⟩
          · have hi2 : i < vals.length := by omega
            have hc := cnt_ge (c := ByteArray.size) hi2
            have hV2 := hV i
            repeat' ((conv => whnf); (first | refine k0 ?_ | refine jA fun _ => ?_ | refine jB fun _ => ?_ | refine kC (fun _ => ?_) fun _ => ?_ | (apply cx113; refine kl tx113 ?_) | (apply cx112; refine kl tx112 ?_) | refine jst ?_ | exact ⟨rfl, rfl⟩ | exact jV | fail))
            have e := pt_fm (H := (hdN true keys.length ++ fm ptX keys)) hi2
            refine ⟨⟨i + 1, by omega⟩, by simp only; omega, ?_⟩
            exact w_autoX [] (by (conv => whnf); exact And.intro (by kernel_rfl) (And.intro (by kernel_rfl) (by repeat' (first | (with_reducible exact rfl) | ((conv => whnf); first | exact trivial | exact ⟨rfl, clo_i, congrArg (cs true) e⟩ | exact tvr (congrArg List.length e) | exact rfl | exact tvi (by first | omega | (dsimp only; omega) | (simp; done)) | exact tvr (by first | omega | (dsimp only; omega) | (simp; done) | (simp; omega)) | exact ⟨rfl, clo_i, by first | rfl | rw [List.take_length] | assumption⟩ | refine And.intro ?_ ?_)))))
          · obtain rfl : i = vals.length := by omega
            repeat' ((conv => whnf); (first | refine k0 ?_ | refine jA fun _ => ?_ | refine jB fun _ => ?_ | refine kC (fun _ => ?_) fun _ => ?_ | (apply cx113; refine kl tx113 ?_) | (apply cx112; refine kl tx112 ?_) | refine jst ?_ | exact ⟨rfl, rfl⟩ | exact jV | fail))
            exact ⟨by rw [List.take_length]; rfl, rfl⟩

theorem cx114 {P : Program} {X : FuncId → List Arg → List (Bool × List Cell) → List (Option (List Cell)) → Prop} {a : List Arg} {Q : List (Bool × List Cell) → List (Option (List Cell)) → Prop} (h : ∃ b vals outs, a = b ∧ D P X (.call 114 b vals outs) ∧ Q vals outs) : CallS P X 114 a Q := ⟨h⟩

end Go.Proofs.YtkggnekdjdnhiaaGreat
