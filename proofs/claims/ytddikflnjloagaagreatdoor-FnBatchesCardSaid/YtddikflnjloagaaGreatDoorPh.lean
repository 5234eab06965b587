/- What the law comes to: functions of the program, each with what it gives back, and the plain facts behind them. -/
import Derived.Test.YtddikflnjloagaaGreatDoorChecked
import Derived.IntWalk
import Derived.Test.YtddikflnjloagaaGreatDoorPf
import Derived.Test.YtddikflnjloagaaGreatDoorPg
namespace Go.Proofs.YtddikflnjloagaaGreatDoor

section
open Go Go.RowKit Go.IntWalk

open Enc (sz cs)

attribute [local irreducible] IntKind.wrap

set_option maxRecDepth 100000 in
theorem tx118 {n l h : Int} : T 118 [aI n, aI l, aI h] [vI (max l (min n h))] [none, none, none] := by
  refine w_call md [] Tryz.func118 rfl ?_
  repeat' ((conv => whnf); (first | refine Exists.intro (min n h) (And.intro (by omega) ?_) | refine Exists.intro (max l (min n h)) (And.intro (by omega) ?_) | refine k0 ?_ | refine jA fun _ => ?_ | refine jB fun _ => ?_ | refine kC (fun _ => ?_) fun _ => ?_ | refine jst ?_ | exact ⟨rfl, rfl⟩ | exact jV | fail))

theorem cx118 {P : Program} {X : FuncId → List Arg → List (Bool × List Cell) → List (Option (List Cell)) → Prop} {a : List Arg} {Q : List (Bool × List Cell) → List (Option (List Cell)) → Prop} (h : ∃ b vals outs, a = b ∧ D P X (.call 118 b vals outs) ∧ Q vals outs) : CallS P X 118 a Q := ⟨h⟩

set_option maxRecDepth 100000 in
theorem tx87 {bs : List UInt8} {n : Int} (hb : bs.length ≤ 10000000 := by first | assumption | omega | (simp; done) | (simp; omega)) : T 87 [aO bs, aI n] [vE (ptU bs n)] [none, none] := by
  refine w_call md [] Tryz.func87 rfl ?_
  have hc := clN_le n
  have hlen := uenc_len hc
  repeat' ((conv => whnf); (first | refine k0 ?_ | refine jA fun _ => ?_ | refine jB fun _ => ?_ | refine kC (fun _ => ?_) fun _ => ?_ | (apply cx118; refine kl tx118 ?_) | refine jst ?_ | exact ⟨rfl, rfl⟩ | exact jV | fail))
  conv => whnf
  refine loopk (ι := Nat × List UInt8) (fun i => i.2 ++ uenc i.1 = ptU bs n ∧ i.1 ≤ 1000000) (fun i => i.1) ((clN n, bs)) [] (fun i => [(0, rE 2 i.2), (1, .v false [i6 i.1])]) [some fun _ => none, none, some fun i => nE i.2] ?_
  refine ⟨⟨rfl, hc⟩, ?_, fun ⟨m, l⟩ hi => ?_⟩
  · exact w_autoX [] (by (conv => whnf); exact And.intro (by kernel_rfl) (And.intro (by kernel_rfl) (by repeat' (first | (with_reducible exact rfl) | ((conv => whnf); first | exact trivial | exact tvi (cl_eq n) | exact rfl | exact tvi (by first | omega | (dsimp only; omega) | (simp; done)) | exact tvr (by first | omega | (dsimp only; omega) | (simp; done) | (simp; omega)) | exact ⟨rfl, clo_i, by first | rfl | rw [List.take_length] | assumption⟩ | refine And.intro ?_ ?_)))))
  · dsimp only at hi ⊢
    have hll : l.length ≤ bs.length + 3 := by have := congrArg List.length hi.1; simp at this; omega
    refine ⟨fun hlt => ?_, fun hge => ?_⟩
    · dsimp only at hlt
      repeat' ((conv => whnf); (first | refine And.intro (by decide) (Exists.intro ((m % 128 : Nat) : Int) (And.intro (by rw [Int.tmod_eq_emod_of_nonneg (by omega)]; rfl) ?_)) | refine Exists.intro ((m % 128 + 128 : Nat) : Int) (And.intro ((i64_in _ (by omega)).trans (by omega)) ?_) | refine Exists.intro _ (And.intro (u8n _) ?_) | refine And.intro (by decide) (Exists.intro _ (And.intro (quo128 m (by omega)) ?_)) | refine jap (apB ?_) | refine k0 ?_ | refine jA fun _ => ?_ | refine jB fun _ => ?_ | refine kC (fun _ => ?_) fun _ => ?_ | (apply cx118; refine kl tx118 ?_) | refine jst ?_ | exact ⟨rfl, rfl⟩ | exact jV | fail))
      refine ⟨⟨(m / 128, l ++ [UInt8.ofNat (m % 128 + 128)]), by rw [List.append_assoc, List.singleton_append, ← uenc_big (by omega)]; exact hi.1, by simp only; omega⟩, by simp only; omega, ?_⟩
      dsimp only
      exact jw []
    · dsimp only at hge
      repeat' ((conv => whnf); (first | refine Exists.intro _ (And.intro (u8n _) ?_) | refine jap (apB ?_) | refine k0 ?_ | refine jA fun _ => ?_ | refine jB fun _ => ?_ | refine kC (fun _ => ?_) fun _ => ?_ | (apply cx118; refine kl tx118 ?_) | refine jst ?_ | exact ⟨rfl, rfl⟩ | exact jV | fail))
      exact ⟨by rw [← hi.1, uenc_small (by omega)], rfl⟩

theorem cx87 {P : Program} {X : FuncId → List Arg → List (Bool × List Cell) → List (Option (List Cell)) → Prop} {a : List Arg} {Q : List (Bool × List Cell) → List (Option (List Cell)) → Prop} (h : ∃ b vals outs, a = b ∧ D P X (.call 87 b vals outs) ∧ Q vals outs) : CallS P X 87 a Q := ⟨h⟩

set_option maxRecDepth 100000 in
theorem tx89 {bs : List UInt8} {s : ByteArray} (hb : bs.length ≤ 10000000 := by first | assumption | omega | (simp; done) | (simp; omega)) (hs : s.size ≤ 10000000 := by first | assumption | omega | (simp; done) | (simp; omega)) : T 89 [aO bs, aS s] [vE (ptT bs (bl s))] [none, none] := by
  refine w_call md [] Tryz.func89 rfl ?_
  have hlen := uenc_len (clN_le s.size)
  have hsz := bl_len s
  repeat' ((conv => whnf); (first | refine jap (apE ?_) src_str | refine k0 ?_ | refine jA fun _ => ?_ | refine jB fun _ => ?_ | refine kC (fun _ => ?_) fun _ => ?_ | (apply cx87; refine kl tx87 ?_) | refine jst ?_ | exact ⟨rfl, rfl⟩ | exact jV | fail))

theorem cx89 {P : Program} {X : FuncId → List Arg → List (Bool × List Cell) → List (Option (List Cell)) → Prop} {a : List Arg} {Q : List (Bool × List Cell) → List (Option (List Cell)) → Prop} (h : ∃ b vals outs, a = b ∧ D P X (.call 89 b vals outs) ∧ Q vals outs) : CallS P X 89 a Q := ⟨h⟩

set_option maxRecDepth 100000 in
theorem tx169 {bs : List UInt8} (hb : bs.length ≤ 10000000 := by first | assumption | omega | (simp; done) | (simp; omega)) : T 169 [aE bs] [vE bs] [none] := by
  refine w_call md [] Tryz.func169 rfl ?_
  repeat' ((conv => whnf); (first | refine Exists.intro _ (Exists.intro (cs true (_ : List UInt8)) (And.intro rfl (And.intro ⟨bgb (by omega), bg1 (by omega)⟩ ?_))) | refine k0 ?_ | refine jA fun _ => ?_ | refine jB fun _ => ?_ | refine kC (fun _ => ?_) fun _ => ?_ | refine jst ?_ | exact ⟨rfl, rfl⟩ | exact jV | fail))

theorem cx169 {P : Program} {X : FuncId → List Arg → List (Bool × List Cell) → List (Option (List Cell)) → Prop} {a : List Arg} {Q : List (Bool × List Cell) → List (Option (List Cell)) → Prop} (h : ∃ b vals outs, a = b ∧ D P X (.call 169 b vals outs) ∧ Q vals outs) : CallS P X 169 a Q := ⟨h⟩

set_option maxRecDepth 100000 in
theorem tx145 {bs : List UInt8} {n : Int} (hb : bs.length ≤ 10000000 := by first | assumption | omega | (simp; done) | (simp; omega)) : T 145 [aE bs, aI n] [vE (ptU bs n)] [none, none] := by
  refine w_call md [] Tryz.func145 rfl ?_
  have hc := clN_le n
  have hlen := uenc_len hc
  have hcl := cl_eq n
  unfold clampI at hcl
  repeat' ((conv => whnf); (first | refine Exists.intro _ (Exists.intro (cs true (_ : List UInt8)) (And.intro rfl (And.intro ⟨Nat.le_refl _, bgb (by omega), bg (by omega)⟩ (Exists.intro _ (And.intro ape (Exists.intro _ (And.intro (Nat.zero_add _) ?_))))))) | refine k0 ?_ | refine jA fun _ => ?_ | refine jB fun _ => ?_ | refine kC (fun _ => ?_) fun _ => ?_ | refine jst ?_ | exact ⟨rfl, rfl⟩ | exact jV | fail))
  all_goals
    conv => whnf
    refine loopk (ι := Nat × List UInt8) (fun i => i.2 ++ uenc i.1 = ptU bs n ∧ i.1 ≤ 1000000) (fun i => i.1) ((clN n, bs)) [] (fun i => [(5, rE 2 i.2), (1, .v false [i6 i.1])]) [none, none, some fun i => nE i.2] ?_
    refine ⟨⟨rfl, hc⟩, ?_, fun ⟨m, l⟩ hi => ?_⟩
    · exact jw []
    · dsimp only at hi ⊢
      have hll : l.length ≤ bs.length + 3 := by have := congrArg List.length hi.1; simp at this; omega
      refine ⟨fun hlt => ?_, fun hge => ?_⟩
      · dsimp only at hlt
        repeat' ((conv => whnf); (first | refine Exists.intro _ (And.intro (and127 (m := m) (by omega)) ?_) | refine Exists.intro _ (And.intro (or128 (m := m % 128) (by omega)) ?_) | refine Exists.intro _ (And.intro (u8n _) ?_) | refine And.intro (by decide) (Exists.intro _ (And.intro (shrN m 7) ?_)) | refine jap (apB ?_) | refine k0 ?_ | refine jA fun _ => ?_ | refine jB fun _ => ?_ | refine kC (fun _ => ?_) fun _ => ?_ | refine jst ?_ | exact ⟨rfl, rfl⟩ | exact jV | fail))
        refine ⟨⟨(m / 128, l ++ [UInt8.ofNat (m % 128 + 128)]), by rw [List.append_assoc, List.singleton_append, ← uenc_big (by omega)]; exact hi.1, by simp only; omega⟩, by simp only; omega, ?_⟩
        dsimp only
        exact jw []
      · dsimp only at hge
        repeat' ((conv => whnf); (first | refine Exists.intro _ (And.intro (u8n _) ?_) | refine jap (apB ?_) | refine k0 ?_ | refine jA fun _ => ?_ | refine jB fun _ => ?_ | refine kC (fun _ => ?_) fun _ => ?_ | refine jst ?_ | exact ⟨rfl, rfl⟩ | exact jV | fail))
        exact ⟨by rw [← hi.1, uenc_small (by omega)], rfl⟩

theorem cx145 {P : Program} {X : FuncId → List Arg → List (Bool × List Cell) → List (Option (List Cell)) → Prop} {a : List Arg} {Q : List (Bool × List Cell) → List (Option (List Cell)) → Prop} (h : ∃ b vals outs, a = b ∧ D P X (.call 145 b vals outs) ∧ Q vals outs) : CallS P X 145 a Q := ⟨h⟩
end

section
open Go Go.RowKit Go.IntWalk

open Enc (sz cs)

attribute [local irreducible] IntKind.wrap

set_option maxRecDepth 100000 in
theorem tx165 {bs : List UInt8} (hb : bs.length ≤ 1000000000000 := by first | assumption | omega | (simp; done) | (simp; omega)) : T 165 [aE bs] [vI (crcN bs)] [none] := by
  refine w_call md [] Tryz.func165 rfl ?_
  repeat' ((conv => whnf); (first | refine k0 ?_ | refine jA fun _ => ?_ | refine jB fun _ => ?_ | refine kC (fun _ => ?_) fun _ => ?_ | refine jst ?_ | exact ⟨rfl, rfl⟩ | exact jV | fail))
  conv => whnf
  refine loopk (ι := Nat) (fun i => i ≤ bs.length) (fun i => bs.length - i) (0) [0] (fun i => [(3, .v false [i6 (crcX (bs.take i))]), (4, .v false [i6 i])]) [none] ?_
  refine ⟨by omega, ?_, fun i hi => ?_⟩
  · exact jw []
  · have hx := crcX_lt (bs.take i)
    refine ⟨fun hlt => ?_, fun hge => ?_⟩
    · have hi2 : i < bs.length := by omega
      have hy := u8_lt bs[i]
      have hz := xor_lt32 hx (show bs[i].toNat < 4294967296 by omega)
      repeat' ((conv => whnf); (first | refine Exists.intro _ (And.intro (i64_of (n := bs[i].toNat) (by omega)) ?_) | refine Exists.intro _ (And.intro (xor64 hx (by omega)) ?_) | refine k0 ?_ | refine jA fun _ => ?_ | refine jB fun _ => ?_ | refine kC (fun _ => ?_) fun _ => ?_ | refine jst ?_ | exact ⟨rfl, rfl⟩ | exact jV | fail))
      generalize hx0 : crcX (bs.take i) ^^^ bs[i].toNat = x0 at hz
      conv => whnf
      refine loopk (ι := Nat) (fun i => i ≤ 8) (fun i => 8 - i) (0) [0, 4] (fun i => [(3, .v false [i6 (stepsN i x0)]), (5, .v false [i6 i])]) [none] ?_
      refine ⟨by omega, ?_, fun k hk => ?_⟩
      · exact jw []
      · have hs := stepsN_lt hz k
        refine ⟨fun hlt2 => ?_, fun hge2 => ?_⟩
        · repeat' ((conv => whnf); (first | refine Exists.intro _ (And.intro (and1 (m := stepsN k x0) (by omega)) ?_) | refine And.intro (by decide) (Exists.intro _ (And.intro (shr1 (stepsN k x0)) ?_)) | refine Exists.intro _ (And.intro (xor64 (b := 2197175160) (by omega) (by omega)) ?_) | refine k0 ?_ | refine jA fun _ => ?_ | refine jB fun _ => ?_ | refine kC (fun _ => ?_) fun _ => ?_ | refine jst ?_ | exact ⟨rfl, rfl⟩ | exact jV | fail))
          · refine ⟨⟨k + 1, by omega⟩, by simp only; omega, ?_⟩
            have e : TV.v false [i6 ((stepsN k x0 / 2 ^^^ 2197175160 : Nat) : Int)] = TV.v false [i6 ((stepN (stepsN k x0) : Nat) : Int)] := by
              rw [stepN, if_pos (by omega)]
            exact w_autoX [] (by (conv => whnf); exact And.intro (by kernel_rfl) (And.intro (by kernel_rfl) (by repeat' (first | (with_reducible exact rfl) | ((conv => whnf); first | exact trivial | exact e | exact rfl | exact tvi (by first | omega | (dsimp only; omega) | (simp; done)) | exact tvr (by first | omega | (dsimp only; omega) | (simp; done) | (simp; omega)) | exact ⟨rfl, clo_i, by first | rfl | rw [List.take_length] | assumption⟩ | refine And.intro ?_ ?_)))))
          · refine ⟨⟨k + 1, by omega⟩, by simp only; omega, ?_⟩
            have e : TV.v false [i6 ((stepsN k x0 / 2 : Nat) : Int)] = TV.v false [i6 ((stepN (stepsN k x0) : Nat) : Int)] := by
              rw [stepN, if_neg (by omega)]
            exact w_autoX [] (by (conv => whnf); exact And.intro (by kernel_rfl) (And.intro (by kernel_rfl) (by repeat' (first | (with_reducible exact rfl) | ((conv => whnf); first | exact trivial | exact e | exact rfl | exact tvi (by first | omega | (dsimp only; omega) | (simp; done)) | exact tvr (by first | omega | (dsimp only; omega) | (simp; done) | (simp; omega)) | exact ⟨rfl, clo_i, by first | rfl | rw [List.take_length] | assumption⟩ | refine And.intro ?_ ?_)))))
        · have hk8 : k = 8 := by omega
          repeat' ((conv => whnf); (first | refine k0 ?_ | refine jA fun _ => ?_ | refine jB fun _ => ?_ | refine kC (fun _ => ?_) fun _ => ?_ | refine jst ?_ | exact ⟨rfl, rfl⟩ | exact jV | fail))
          refine ⟨⟨i + 1, by omega⟩, by simp only; omega, ?_⟩
          have e : TV.v false [i6 ((stepsN k x0 : Nat) : Int)] = TV.v false [i6 ((crcX (bs.take (i + 1)) : Nat) : Int)] := by
            rw [crcX_take bs hi2, roundN, hx0, hk8]
          exact w_autoX [] (by (conv => whnf); exact And.intro (by kernel_rfl) (And.intro (by kernel_rfl) (by repeat' (first | (with_reducible exact rfl) | ((conv => whnf); first | exact trivial | exact e | exact rfl | exact tvi (by first | omega | (dsimp only; omega) | (simp; done)) | exact tvr (by first | omega | (dsimp only; omega) | (simp; done) | (simp; omega)) | exact ⟨rfl, clo_i, by first | rfl | rw [List.take_length] | assumption⟩ | refine And.intro ?_ ?_)))))
    · obtain rfl : i = bs.length := by omega
      repeat' ((conv => whnf); (first | refine Exists.intro _ (And.intro (xor64 (b := 4294967295) hx (by omega)) ?_) | refine k0 ?_ | refine jA fun _ => ?_ | refine jB fun _ => ?_ | refine kC (fun _ => ?_) fun _ => ?_ | refine jst ?_ | exact ⟨rfl, rfl⟩ | exact jV | fail))
      exact ⟨by rw [List.take_length]; rfl, rfl⟩

theorem cx165 {P : Program} {X : FuncId → List Arg → List (Bool × List Cell) → List (Option (List Cell)) → Prop} {a : List Arg} {Q : List (Bool × List Cell) → List (Option (List Cell)) → Prop} (h : ∃ b vals outs, a = b ∧ D P X (.call 165 b vals outs) ∧ Q vals outs) : CallS P X 165 a Q := ⟨h⟩

abbrev c32 (n : Nat) : Cell := .prim (.int .u32 (n : Int))

set_option maxRecDepth 100000 in
theorem tx121 {bs : List UInt8} (hb : bs.length ≤ 1000000000000 := by first | assumption | omega | (simp; done) | (simp; omega)) : T 121 [aE bs] [vI (crcN bs)] [none] := by
  refine w_call md [] Tryz.func121 rfl ?_
  repeat' ((conv => whnf); (first | refine k0 ?_ | refine jA fun _ => ?_ | refine jB fun _ => ?_ | refine kC (fun _ => ?_) fun _ => ?_ | refine jst ?_ | exact ⟨rfl, rfl⟩ | exact jV | fail))
  conv => whnf
  refine loopk (ι := Nat) (fun i => i ≤ bs.length) (fun i => bs.length - i) (0) [7, 8] (fun i => [(3, .v false [c32 (crcX (bs.take i))]), (9, .v false [i6 i])]) [none] ?_
  refine ⟨by omega, ?_, fun i hi => ?_⟩
  · exact jw []
  · have hx := crcX_lt (bs.take i)
    refine ⟨fun hlt => ?_, fun hge => ?_⟩
    · have hi2 : i < bs.length := by omega
      have hy := u8_lt bs[i]
      have hz := xor_lt32 hx (show bs[i].toNat < 4294967296 by omega)
      repeat' ((conv => whnf); (first | refine Exists.intro _ (And.intro (u32_in (n := bs[i].toNat) (by omega)) ?_) | refine Exists.intro _ (And.intro (xor32 hx (by omega)) ?_) | refine k0 ?_ | refine jA fun _ => ?_ | refine jB fun _ => ?_ | refine kC (fun _ => ?_) fun _ => ?_ | refine jst ?_ | exact ⟨rfl, rfl⟩ | exact jV | fail))
      generalize hx0 : crcX (bs.take i) ^^^ bs[i].toNat = x0 at hz
      conv => whnf
      refine loopk (ι := Nat) (fun i => i ≤ 8) (fun i => 8 - i) (0) [7, 8, 9] (fun i => [(3, .v false [c32 (stepsN i x0)]), (17, .v false [i6 i])]) [none] ?_
      refine ⟨by omega, ?_, fun k hk => ?_⟩
      · exact jw []
      · have hs := stepsN_lt hz k
        refine ⟨fun hlt2 => ?_, fun hge2 => ?_⟩
        · repeat' ((conv => whnf); (first | refine Exists.intro _ (And.intro (and32_1 (a := stepsN k x0) (by omega)) ?_) | refine And.intro (by decide) (Exists.intro _ (And.intro (shr1 (stepsN k x0)) ?_)) | refine Exists.intro _ (And.intro (xor32 (b := 2197175160) (by omega) (by omega)) ?_) | refine k0 ?_ | refine jA fun _ => ?_ | refine jB fun _ => ?_ | refine kC (fun _ => ?_) fun _ => ?_ | refine jst ?_ | exact ⟨rfl, rfl⟩ | exact jV | fail))
          · refine ⟨⟨k + 1, by omega⟩, by simp only; omega, ?_⟩
            have e : TV.v false [c32 (stepsN k x0 / 2 ^^^ 2197175160)] = TV.v false [c32 (stepN (stepsN k x0))] := by
              rw [stepN, if_pos (by omega)]
            exact w_autoX [] (by (conv => whnf); exact And.intro (by kernel_rfl) (And.intro (by kernel_rfl) (by repeat' (first | (with_reducible exact rfl) | ((conv => whnf); first | exact trivial | exact e | exact rfl | exact tvi (by first | omega | (dsimp only; omega) | (simp; done)) | exact tvr (by first | omega | (dsimp only; omega) | (simp; done) | (simp; omega)) | exact ⟨rfl, clo_i, by first | rfl | rw [List.take_length] | assumption⟩ | refine And.intro ?_ ?_)))))
          · refine ⟨⟨k + 1, by omega⟩, by simp only; omega, ?_⟩
            have e : TV.v false [c32 (stepsN k x0 / 2)] = TV.v false [c32 (stepN (stepsN k x0))] := by
              rw [stepN, if_neg (by omega)]
            exact w_autoX [] (by (conv => whnf); exact And.intro (by kernel_rfl) (And.intro (by kernel_rfl) (by repeat' (first | (with_reducible exact rfl) | ((conv => whnf); first | exact trivial | exact e | exact rfl | exact tvi (by first | omega | (dsimp only; omega) | (simp; done)) | exact tvr (by first | omega | (dsimp only; omega) | (simp; done) | (simp; omega)) | exact ⟨rfl, clo_i, by first | rfl | rw [List.take_length] | assumption⟩ | refine And.intro ?_ ?_)))))
        · have hk8 : k = 8 := by omega
          repeat' ((conv => whnf); (first | refine k0 ?_ | refine jA fun _ => ?_ | refine jB fun _ => ?_ | refine kC (fun _ => ?_) fun _ => ?_ | refine jst ?_ | exact ⟨rfl, rfl⟩ | exact jV | fail))
          refine ⟨⟨i + 1, by omega⟩, by simp only; omega, ?_⟩
          have e : TV.v false [c32 (stepsN k x0)] = TV.v false [c32 (crcX (bs.take (i + 1)))] := by
            rw [crcX_take bs hi2, roundN, hx0, hk8]
          exact w_autoX [] (by (conv => whnf); exact And.intro (by kernel_rfl) (And.intro (by kernel_rfl) (by repeat' (first | (with_reducible exact rfl) | ((conv => whnf); first | exact trivial | exact e | exact rfl | exact tvi (by first | omega | (dsimp only; omega) | (simp; done)) | exact tvr (by first | omega | (dsimp only; omega) | (simp; done) | (simp; omega)) | exact ⟨rfl, clo_i, by first | rfl | rw [List.take_length] | assumption⟩ | refine And.intro ?_ ?_)))))
    · obtain rfl : i = bs.length := by omega
      have hy := xor_lt32 (show 4294967295 < 4294967296 by omega) hx
      repeat' ((conv => whnf); (first | refine Exists.intro _ (And.intro (xor32 (a := 4294967295) (by omega) hx) ?_) | refine Exists.intro _ (And.intro (i64_of (by omega)) ?_) | refine k0 ?_ | refine jA fun _ => ?_ | refine jB fun _ => ?_ | refine kC (fun _ => ?_) fun _ => ?_ | refine jst ?_ | exact ⟨rfl, rfl⟩ | exact jV | fail))
      exact ⟨by rw [List.take_length, Nat.xor_comm]; rfl, rfl⟩

theorem cx121 {P : Program} {X : FuncId → List Arg → List (Bool × List Cell) → List (Option (List Cell)) → Prop} {a : List Arg} {Q : List (Bool × List Cell) → List (Option (List Cell)) → Prop} (h : ∃ b vals outs, a = b ∧ D P X (.call 121 b vals outs) ∧ Q vals outs) : CallS P X 121 a Q := ⟨h⟩

set_option maxRecDepth 100000 in
theorem tx90 {bs : List UInt8} (hb : bs.length ≤ 10000000 := by first | assumption | omega | (simp; done) | (simp; omega)) : T 90 [aO bs] [vE (ptS bs)] [none] := by
  refine w_call md [] Tryz.func90 rfl ?_
  have hx := crcN_lt bs
  repeat' ((conv => whnf); (first | refine And.intro (by decide) (Exists.intro _ (And.intro (shrN (crcN bs) 24) ?_)) | refine And.intro (by decide) (Exists.intro _ (And.intro (shrN (crcN bs) 16) ?_)) | refine And.intro (by decide) (Exists.intro _ (And.intro (shrN (crcN bs) 8) ?_)) | refine Exists.intro _ (And.intro (u8n _) ?_) | refine Exists.intro _ (Exists.intro (cs true (be4 (crcN bs))) (And.intro rfl (And.intro ⟨by simp, bgb (by omega), bg (by omega)⟩ (apE (ys := be4 (crcN bs)) ?_)))) | refine k0 ?_ | refine jA fun _ => ?_ | refine jB fun _ => ?_ | refine kC (fun _ => ?_) fun _ => ?_ | (apply cx121; refine kl tx121 ?_) | refine jst ?_ | exact ⟨rfl, rfl⟩ | exact jV | fail))

theorem cx90 {P : Program} {X : FuncId → List Arg → List (Bool × List Cell) → List (Option (List Cell)) → Prop} {a : List Arg} {Q : List (Bool × List Cell) → List (Option (List Cell)) → Prop} (h : ∃ b vals outs, a = b ∧ D P X (.call 90 b vals outs) ∧ Q vals outs) : CallS P X 90 a Q := ⟨h⟩

set_option maxRecDepth 100000 in
theorem tx148 {bs : List UInt8} (hb : bs.length ≤ 10000000 := by first | assumption | omega | (simp; done) | (simp; omega)) : T 148 [aE bs] [vE (ptS bs)] [none] := by
  refine w_call md [] Tryz.func148 rfl ?_
  have hx := crcN_lt bs
  repeat' ((conv => whnf); (first | refine And.intro (by decide) (Exists.intro _ (And.intro (shrN (crcN bs) 24) ?_)) | refine And.intro (by decide) (Exists.intro _ (And.intro (shrN (crcN bs) 16) ?_)) | refine And.intro (by decide) (Exists.intro _ (And.intro (shrN (crcN bs) 8) ?_)) | refine Exists.intro _ (And.intro (u8n _) ?_) | refine Exists.intro _ (Exists.intro (cs true (_ : List UInt8)) (And.intro rfl (And.intro ⟨Nat.le_refl _, bgb (by omega), bg (by omega)⟩ (Exists.intro _ (And.intro ape (Exists.intro _ (And.intro (Nat.zero_add _) ?_))))))) | refine Exists.intro _ (Exists.intro (cs true (be4 (crcN bs))) (And.intro rfl (And.intro ⟨by simp, bgb (by omega), bg (by omega)⟩ (apE (ys := be4 (crcN bs)) ?_)))) | refine k0 ?_ | refine jA fun _ => ?_ | refine jB fun _ => ?_ | refine kC (fun _ => ?_) fun _ => ?_ | (apply cx165; refine kl tx165 ?_) | refine jst ?_ | exact ⟨rfl, rfl⟩ | exact jV | fail))

theorem cx148 {P : Program} {X : FuncId → List Arg → List (Bool × List Cell) → List (Option (List Cell)) → Prop} {a : List Arg} {Q : List (Bool × List Cell) → List (Option (List Cell)) → Prop} (h : ∃ b vals outs, a = b ∧ D P X (.call 148 b vals outs) ∧ Q vals outs) : CallS P X 148 a Q := ⟨h⟩

set_option maxRecDepth 100000 in
theorem tx147 {bs : List UInt8} {s : ByteArray} (hb : bs.length ≤ 10000000 := by first | assumption | omega | (simp; done) | (simp; omega)) (hs : s.size ≤ 10000000 := by first | assumption | omega | (simp; done) | (simp; omega)) : T 147 [aE bs, aS s] [vE (ptT bs (bl s))] [none, none] := by
  refine w_call md [] Tryz.func147 rfl ?_
  have hlen := uenc_len (clN_le s.size)
  have hsz := bl_len s
  repeat' ((conv => whnf); (first | refine jap (apE ?_) src_str | refine k0 ?_ | refine jA fun _ => ?_ | refine jB fun _ => ?_ | refine kC (fun _ => ?_) fun _ => ?_ | (apply cx145; refine kl tx145 ?_) | refine jst ?_ | exact ⟨rfl, rfl⟩ | exact jV | fail))

theorem cx147 {P : Program} {X : FuncId → List Arg → List (Bool × List Cell) → List (Option (List Cell)) → Prop} {a : List Arg} {Q : List (Bool × List Cell) → List (Option (List Cell)) → Prop} (h : ∃ b vals outs, a = b ∧ D P X (.call 147 b vals outs) ∧ Q vals outs) : CallS P X 147 a Q := ⟨h⟩
end

section
open Go Go.RowKit Go.IntWalk

open Enc (sz cs)

attribute [local irreducible] IntKind.wrap

/-! ### Numbers as bytes, the highest first -/

def beB : Nat → Nat → List UInt8
  | 0, _ => []
  | k + 1, n => UInt8.ofNat (n / 2 ^ (8 * k)) :: beB k n

theorem beB_len : ∀ k n, (beB k n).length = k
  | 0, _ => rfl
  | k + 1, n => by rw [beB, List.length_cons, beB_len k n]

theorem beB_0 (n : Nat) : beB 0 n = [] := rfl

theorem beB_s (k n : Nat) : beB (k + 1) n = UInt8.ofNat (n / 2 ^ (8 * k)) :: beB k n := rfl

def tnB (t : UInt8) (l : List UInt8) : List UInt8 := l.map (· ^^^ t)

theorem tnB_len (t : UInt8) (l : List UInt8) : (tnB t l).length = l.length := by unfold tnB; rw [List.length_map]

theorem shrM {n m : Nat} (h : m ≤ 7) : (n : Int).fdiv (2 ^ min ((8 * m : Nat) : Int).toNat IntKind.i64.bits) = ((n / 2 ^ (8 * m) : Nat) : Int) := by
  rw [show min ((8 * m : Nat) : Int).toNat IntKind.i64.bits = 8 * m from Nat.min_eq_left (by show 8 * m ≤ 64; omega)]
  exact shrN n (8 * m)

theorem xorU8 (a b : UInt8) : IntKind.u8.wrap ((BitVec.ofInt IntKind.u8.bits (a.toNat : Int) ^^^ BitVec.ofInt IntKind.u8.bits (b.toNat : Int)).toNat : Int) = ((a ^^^ b).toNat : Int) := by
  have e : (BitVec.ofInt IntKind.u8.bits (a.toNat : Int) ^^^ BitVec.ofInt IntKind.u8.bits (b.toNat : Int)).toNat = (a ^^^ b).toNat := by
    show (BitVec.ofInt 8 (a.toNat : Int) ^^^ BitVec.ofInt 8 (b.toNat : Int)).toNat = (a ^^^ b).toNat
    have ha := UInt8.toNat_lt a
    have hb := UInt8.toNat_lt b
    have q : ∀ m : Nat, BitVec.ofInt 8 (m : Int) = BitVec.ofNat 8 m := fun m => by simp
    rw [q, q, BitVec.toNat_xor, BitVec.toNat_ofNat, BitVec.toNat_ofNat, Nat.mod_eq_of_lt (by omega), Nat.mod_eq_of_lt (by omega), UInt8.toNat_xor]
  rw [e]
  have := UInt8.toNat_lt (a ^^^ b)
  rw [IntKind.wrap_u8]; omega

abbrev aU8 (t : UInt8) : Arg := .val false [.prim (.int .u8 (t.toNat : Int))]

set_option maxRecDepth 100000 in
theorem tx120 {bs : List UInt8} {n k : Nat} {t : UInt8} (hb : bs.length ≤ 10000000 := by first | assumption | omega | (simp; done) | (simp; omega)) (hk : k ≤ 7 := by first | assumption | omega | (simp; done) | (simp; omega)) : T 120 [aO bs, aI (n : Int), aI (k : Int), aU8 t] [vE (bs ++ tnB t (beB k n))] [none, none, none, none] := by
  refine w_call md [] Tryz.func120 rfl ?_
  repeat' ((conv => whnf); (first | refine k0 ?_ | refine jA fun _ => ?_ | refine jB fun _ => ?_ | refine kC (fun _ => ?_) fun _ => ?_ | refine jst ?_ | exact ⟨rfl, rfl⟩ | exact jV | fail))
  conv => whnf
  refine loopk (ι := Nat × List UInt8) (fun i => i.2 ++ tnB t (beB i.1 n) = bs ++ tnB t (beB k n) ∧ i.1 ≤ k) (fun i => i.1) ((k, bs)) [1, 3] (fun i => [(0, rE 4 i.2), (9, .v false [i6 ((i.1 : Int) - 1)])]) [some fun _ => none, none, none, none, some fun i => nE i.2] ?_
  refine ⟨⟨rfl, Nat.le_refl _⟩, ?_, fun ⟨m, l⟩ hi => ?_⟩
  · exact jw []
  · dsimp only at hi ⊢
    have hll : l.length ≤ bs.length + 7 := by have := congrArg List.length hi.1; simp [tnB_len, beB_len] at this; omega
    refine ⟨fun hlt => ?_, fun hge => ?_⟩
    · dsimp only at hlt
      obtain ⟨m, rfl⟩ : ∃ a, m = a + 1 := ⟨m - 1, by omega⟩
      repeat' ((conv => whnf); (first | refine Exists.intro ((8 * m : Nat) : Int) (And.intro ((i64_in _ (by simp only; omega)).trans (by simp only; omega)) ?_) | refine And.intro (Int.natCast_nonneg _) (Exists.intro _ (And.intro (shrM (by omega)) ?_)) | refine Exists.intro _ (And.intro (xorU8 _ _) ?_) | refine Exists.intro _ (And.intro (u8n _) ?_) | refine Exists.intro ((m : Int) - 1) (And.intro ((i64_in _ (by simp only; omega)).trans (by simp only; omega)) ?_) | refine jap (apB ?_) | refine k0 ?_ | refine jA fun _ => ?_ | refine jB fun _ => ?_ | refine kC (fun _ => ?_) fun _ => ?_ | refine jst ?_ | exact ⟨rfl, rfl⟩ | exact jV | fail))
      refine ⟨⟨(m, l ++ [UInt8.ofNat (n / 2 ^ (8 * m)) ^^^ t]), by rw [← hi.1, beB_s, List.append_assoc]; rfl, by simp only; omega⟩, by simp only; omega, ?_⟩
      dsimp only
      exact jw []
    · obtain rfl : m = 0 := by omega
      repeat' ((conv => whnf); (first | refine k0 ?_ | refine jA fun _ => ?_ | refine jB fun _ => ?_ | refine kC (fun _ => ?_) fun _ => ?_ | refine jst ?_ | exact ⟨rfl, rfl⟩ | exact jV | fail))
      exact ⟨by rw [← hi.1, beB_0]; simp [tnB], rfl⟩

theorem cx120 {P : Program} {X : FuncId → List Arg → List (Bool × List Cell) → List (Option (List Cell)) → Prop} {a : List Arg} {Q : List (Bool × List Cell) → List (Option (List Cell)) → Prop} (h : ∃ b vals outs, a = b ∧ D P X (.call 120 b vals outs) ∧ Q vals outs) : CallS P X 120 a Q := ⟨h⟩

def bN (n : Nat) : Nat := if h : n = 0 then 0 else bN (n / 256) + 1

theorem bN_0 : bN 0 = 0 := by rw [bN]; rfl

theorem bN_s {n : Nat} (h : n ≠ 0) : bN n = bN (n / 256) + 1 := by rw [bN, dif_neg h]

theorem bN_le : ∀ (k n : Nat), n < 256 ^ k → bN n ≤ k
  | 0, n, h => by
    have : n = 0 := by rw [Nat.pow_zero] at h; omega
    subst this; rw [bN_0]; exact Nat.le_refl _
  | k + 1, n, h => by
    by_cases e : n = 0
    · subst e; rw [bN_0]; omega
    · rw [bN_s e]
      have := bN_le k (n / 256) (by rw [Nat.pow_succ] at h; omega)
      omega

set_option maxRecDepth 100000 in
theorem tx119 {n : Nat} (hn : n < 9223372036854775808 := by first | assumption | omega | (simp; done) | (simp; omega)) : T 119 [aI (n : Int)] [vI (bN n)] [none] := by
  refine w_call md [] Tryz.func119 rfl ?_
  repeat' ((conv => whnf); (first | refine k0 ?_ | refine jA fun _ => ?_ | refine jB fun _ => ?_ | refine kC (fun _ => ?_) fun _ => ?_ | refine jst ?_ | exact ⟨rfl, rfl⟩ | exact jV | fail))
  conv => whnf
  refine loopk (ι := Nat × Nat) (fun i => i.2 + bN i.1 = bN n ∧ i.1 ≤ n) (fun i => i.1) ((n, 0)) [] (fun i => [(0, .v false [i6 i.1]), (3, .v false [i6 i.2])]) [none] ?_
  refine ⟨⟨by simp only; omega, Nat.le_refl _⟩, ?_, fun ⟨m, l⟩ hi => ?_⟩
  · exact jw []
  · dsimp only at hi ⊢
    have h8 := bN_le 8 n (by omega)
    refine ⟨fun hlt => ?_, fun hge => ?_⟩
    · dsimp only at hlt
      have hm : m ≠ 0 := by omega
      have hb := bN_s hm
      repeat' ((conv => whnf); (first | refine And.intro (by decide) (Exists.intro _ (And.intro (shrN m 8) ?_)) | refine Exists.intro ((l + 1 : Nat) : Int) (And.intro ((i64_in _ (by simp only; omega)).trans (by simp only; omega)) ?_) | refine k0 ?_ | refine jA fun _ => ?_ | refine jB fun _ => ?_ | refine kC (fun _ => ?_) fun _ => ?_ | refine jst ?_ | exact ⟨rfl, rfl⟩ | exact jV | fail))
      refine ⟨⟨(m / 256, l + 1), by simp only; omega, by simp only; omega⟩, by simp only; omega, ?_⟩
      dsimp only
      exact jw []
    · obtain rfl : m = 0 := by dsimp only at hge; omega
      rw [bN_0] at hi
      repeat' ((conv => whnf); (first | refine k0 ?_ | refine jA fun _ => ?_ | refine jB fun _ => ?_ | refine kC (fun _ => ?_) fun _ => ?_ | refine jst ?_ | exact ⟨rfl, rfl⟩ | exact jV | fail))
      all_goals exact ⟨by rw [← hi.1], rfl⟩

theorem cx119 {P : Program} {X : FuncId → List Arg → List (Bool × List Cell) → List (Option (List Cell)) → Prop} {a : List Arg} {Q : List (Bool × List Cell) → List (Option (List Cell)) → Prop} (h : ∃ b vals outs, a = b ∧ D P X (.call 119 b vals outs) ∧ Q vals outs) : CallS P X 119 a Q := ⟨h⟩

theorem tnB_0 (l : List UInt8) : tnB 0 l = l := by
  unfold tnB
  conv => rhs; rw [← List.map_id l]
  refine List.map_congr_left fun x _ => ?_
  show x ^^^ 0 = x
  exact UInt8.xor_zero

def fxN (n : Int) : Nat := (max (-2147483648) (min n 2147483647) + 2147483648).toNat

theorem fxN_lt (n : Int) : fxN n < 4294967296 := by unfold fxN; omega

theorem fxN_eq (n : Int) : max (-2147483648) (min n 2147483647) + 2147483648 = (fxN n : Int) := by unfold fxN; omega

/-- A number of four bytes behind bytes. -/
abbrev ptF (bs : List UInt8) (n : Int) : List UInt8 := bs ++ beB 4 (fxN n)

theorem beB4 (n : Nat) : beB 4 n = be4 n := by
  unfold beB beB beB beB beB be4
  simp

set_option maxRecDepth 100000 in
theorem tx157 {bs : List UInt8} {n : Int} (hb : bs.length ≤ 10000000 := by first | assumption | omega | (simp; done) | (simp; omega)) : T 157 [aO bs, aI n] [vE (ptF bs n)] [none, none] := by
  refine w_call md [] Tryz.func157 rfl ?_
  have hq := fxN_eq n
  have hl := fxN_lt n
  have hA : T 120 [aO bs, aI (fxN n : Nat), aI ((4 : Nat) : Int), aU8 0] [vE (bs ++ beB 4 (fxN n))] [none, none, none, none] := by
    have h := tx120 (bs := bs) (n := fxN n) (k := 4) (t := 0)
    rwa [tnB_0] at h
  repeat' ((conv => whnf); (first | refine Exists.intro (fxN n : Int) (And.intro ((i64_in _ (by omega)).trans hq) ?_) | (apply cx120; refine kl (hA) ?_) | refine k0 ?_ | refine jA fun _ => ?_ | refine jB fun _ => ?_ | refine kC (fun _ => ?_) fun _ => ?_ | (apply cx118; refine kl tx118 ?_) | (apply cx120; refine kl tx120 ?_) | refine jst ?_ | exact ⟨rfl, rfl⟩ | exact jV | fail))

theorem cx157 {P : Program} {X : FuncId → List Arg → List (Bool × List Cell) → List (Option (List Cell)) → Prop} {a : List Arg} {Q : List (Bool × List Cell) → List (Option (List Cell)) → Prop} (h : ∃ b vals outs, a = b ∧ D P X (.call 157 b vals outs) ∧ Q vals outs) : CallS P X 157 a Q := ⟨h⟩

set_option maxRecDepth 100000 in
theorem tx174 {bs : List UInt8} {n : Int} (hb : bs.length ≤ 10000000 := by first | assumption | omega | (simp; done) | (simp; omega)) : T 174 [aE bs, aI n] [vE (ptF bs n)] [none, none] := by
  refine w_call md [] Tryz.func174 rfl ?_
  have hq := fxN_eq n
  have hl := fxN_lt n
  unfold ptF
  rw [beB4]
  repeat' ((conv => whnf); (first | refine Exists.intro _ (Exists.intro (cs true (_ : List UInt8)) (And.intro rfl (And.intro ⟨Nat.le_refl _, bgb (by omega), bg (by omega)⟩ (Exists.intro _ (And.intro ape (Exists.intro _ (And.intro (Nat.zero_add _) ?_))))))) | refine Exists.intro (fxN n : Int) (And.intro ((i64_in _ (by omega)).trans (by omega)) ?_) | refine And.intro (by decide) (Exists.intro _ (And.intro (shrN (fxN n) 24) ?_)) | refine And.intro (by decide) (Exists.intro _ (And.intro (shrN (fxN n) 16) ?_)) | refine And.intro (by decide) (Exists.intro _ (And.intro (shrN (fxN n) 8) ?_)) | refine Exists.intro _ (And.intro (u8n _) ?_) | refine Exists.intro _ (Exists.intro (cs true (be4 (fxN n))) (And.intro rfl (And.intro ⟨by simp, bgb (by omega), bg (by omega)⟩ (apE (ys := be4 (fxN n)) ?_)))) | refine k0 ?_ | refine jA fun _ => ?_ | refine jB fun _ => ?_ | refine kC (fun _ => ?_) fun _ => ?_ | refine jst ?_ | exact ⟨rfl, rfl⟩ | exact jV | fail))

theorem cx174 {P : Program} {X : FuncId → List Arg → List (Bool × List Cell) → List (Option (List Cell)) → Prop} {a : List Arg} {Q : List (Bool × List Cell) → List (Option (List Cell)) → Prop} (h : ∃ b vals outs, a = b ∧ D P X (.call 174 b vals outs) ∧ Q vals outs) : CallS P X 174 a Q := ⟨h⟩

def vrC (n : Int) : Int := max (-1000000000000000) (min n 1000000000000000)

def vrP (n : Int) : List UInt8 := UInt8.ofNat (128 + bN n.toNat) :: beB (bN n.toNat) n.toNat

def vrM (n : Int) : List UInt8 := UInt8.ofNat (127 - bN (-1 - n).toNat) :: tnB 255 (beB (bN (-1 - n).toNat) (-1 - n).toNat)

def vrB (n : Int) : List UInt8 := if 0 ≤ vrC n then vrP (vrC n) else vrM (vrC n)

theorem vrB_p {n : Int} (h : 0 ≤ vrC n) : vrB n = vrP (vrC n) := if_pos h

theorem vrB_m {n : Int} (h : ¬ 0 ≤ vrC n) : vrB n = vrM (vrC n) := if_neg h

abbrev ptW (bs : List UInt8) (n : Int) : List UInt8 := bs ++ vrB n

theorem bN7 {n : Nat} (h : n ≤ 1000000000000000) : bN n ≤ 7 := bN_le 7 n (by omega)

set_option maxRecDepth 100000 in
theorem tx88 {bs : List UInt8} {n : Int} (hb : bs.length ≤ 9000000 := by first | assumption | omega | (simp; done) | (simp; omega)) : T 88 [aO bs, aI n] [vE (ptW bs n)] [none, none] := by
  refine w_call md [] Tryz.func88 rfl ?_
  have hc : -1000000000000000 ≤ vrC n ∧ vrC n ≤ 1000000000000000 := by unfold vrC; omega
  have hC : T 118 [aI n, aI (-1000000000000000), aI 1000000000000000] [vI (vrC n)] [none, none, none] := tx118
  unfold ptW
  by_cases h0 : 0 ≤ vrC n
  · rw [vrB_p h0]
    generalize vrC n = c at hc hC h0
    obtain ⟨m, rfl⟩ : ∃ m : Nat, c = m := ⟨c.toNat, by omega⟩
    have hb7 := bN7 (n := m) (by omega)
    have hA : T 120 [aO (bs ++ [UInt8.ofNat (128 + bN m)]), aI (m : Nat), aI (bN m : Nat), aU8 0] [vE (bs ++ vrP m)] [none, none, none, none] := by
      have h := tx120 (bs := bs ++ [UInt8.ofNat (128 + bN m)]) (n := m) (k := bN m) (t := 0)
      rw [tnB_0, List.append_assoc] at h
      exact h
    repeat' ((conv => whnf); (first | (apply cx118; refine kl (hC) ?_) | (apply cx119; refine kl (tx119 (n := m)) ?_) | (apply cx120; refine kl (hA) ?_) | refine Exists.intro ((128 + bN m : Nat) : Int) (And.intro ((i64_in _ (by omega)).trans (by omega)) ?_) | refine Exists.intro _ (And.intro (u8n _) ?_) | refine jap (apB ?_) | refine k0 ?_ | refine jA fun _ => ?_ | refine jB fun _ => ?_ | refine kC (fun _ => ?_) fun _ => ?_ | (apply cx118; refine kl tx118 ?_) | (apply cx119; refine kl tx119 ?_) | (apply cx120; refine kl tx120 ?_) | refine jst ?_ | exact ⟨rfl, rfl⟩ | exact jV | fail))
  · rw [vrB_m h0]
    generalize vrC n = c at hc hC h0
    obtain ⟨m, hm⟩ : ∃ m : Nat, -1 - c = m := ⟨(-1 - c).toNat, by omega⟩
    have hb7 := bN7 (n := m) (by omega)
    have hA : T 120 [aO (bs ++ [UInt8.ofNat (127 - bN m)]), aI (m : Nat), aI (bN m : Nat), aU8 255] [vE (bs ++ vrM c)] [none, none, none, none] := by
      have h := tx120 (bs := bs ++ [UInt8.ofNat (127 - bN m)]) (n := m) (k := bN m) (t := 255)
      rw [List.append_assoc] at h
      unfold vrM
      rw [hm]
      exact h
    repeat' ((conv => whnf); (first | (apply cx118; refine kl (hC) ?_) | (apply cx119; refine kl (tx119 (n := m)) ?_) | (apply cx120; refine kl (hA) ?_) | refine Exists.intro ((127 - bN m : Nat) : Int) (And.intro ((i64_in _ (by omega)).trans (by omega)) ?_) | refine Exists.intro ((m : Nat) : Int) (And.intro ((i64_in _ (by omega)).trans (by omega)) ?_) | refine Exists.intro _ (And.intro (u8n _) ?_) | refine jap (apB ?_) | refine k0 ?_ | refine jA fun _ => ?_ | refine jB fun _ => ?_ | refine kC (fun _ => ?_) fun _ => ?_ | (apply cx118; refine kl tx118 ?_) | (apply cx119; refine kl tx119 ?_) | (apply cx120; refine kl tx120 ?_) | refine jst ?_ | exact ⟨rfl, rfl⟩ | exact jV | fail))

theorem cx88 {P : Program} {X : FuncId → List Arg → List (Bool × List Cell) → List (Option (List Cell)) → Prop} {a : List Arg} {Q : List (Bool × List Cell) → List (Option (List Cell)) → Prop} (h : ∃ b vals outs, a = b ∧ D P X (.call 88 b vals outs) ∧ Q vals outs) : CallS P X 88 a Q := ⟨h⟩

theorem div_sh (n j : Nat) : n / 2 ^ (8 * j) / 256 = n / 2 ^ (8 * (j + 1)) := by
  rw [Nat.div_div_eq_div_mul, show 8 * (j + 1) = 8 * j + 8 from rfl, Nat.pow_add]

set_option maxRecDepth 100000 in
theorem tx163 {n : Nat} (hn : n < 9223372036854775808 := by first | assumption | omega | (simp; done) | (simp; omega)) : T 163 [aI (n : Int)] [vE (beB (bN n) n)] [none] := by
  refine w_call md [] Tryz.func163 rfl ?_
  have h8 := bN_le 8 n (by omega)
  repeat' ((conv => whnf); (first | refine k0 ?_ | refine jA fun _ => ?_ | refine jB fun _ => ?_ | refine kC (fun _ => ?_) fun _ => ?_ | refine jst ?_ | exact ⟨rfl, rfl⟩ | exact jV | fail))
  conv => whnf
  refine loopk (ι := Nat × Nat × List UInt8) (fun i => i.1 + bN i.2.1 = bN n ∧ i.2.1 = n / 2 ^ (8 * i.1) ∧ i.2.2 = beB i.1 n ∧ i.2.1 ≤ n) (fun i => i.2.1) ((0, n, [])) [] (fun i => [(0, .v false [i6 i.2.1]), (3, rE 1 i.2.2)]) [none, some fun i => nE i.2.2] ?_
  refine ⟨⟨by simp only; omega, by simp only; simp, rfl, Nat.le_refl _⟩, ?_, fun ⟨j, m, l⟩ hi => ?_⟩
  · exact jw []
  · dsimp only at hi ⊢
    have hl := beB_len j n
    rw [← hi.2.2.1] at hl
    refine ⟨fun hlt => ?_, fun hge => ?_⟩
    · dsimp only at hlt
      have hm : m ≠ 0 := by omega
      have hb := bN_s hm
      repeat' ((conv => whnf); (first | refine And.intro (by decide) (Exists.intro _ (And.intro (shrN m 8) ?_)) | refine Exists.intro _ (And.intro (u8n _) ?_) | refine jap (apE (o := true) (xs := [UInt8.ofNat m]) (ys := l) ?_) (srcO (α := UInt8) rfl rfl) | refine k0 ?_ | refine jA fun _ => ?_ | refine jB fun _ => ?_ | refine kC (fun _ => ?_) fun _ => ?_ | refine jst ?_ | exact ⟨rfl, rfl⟩ | exact jV | fail))
      refine ⟨⟨(j + 1, m / 256, [UInt8.ofNat m] ++ l), by simp only; omega, by simp only; rw [hi.2.1, div_sh], by simp only; rw [beB_s, hi.2.1, hi.2.2.1]; rfl, by simp only; omega⟩, by simp only; omega, ?_⟩
      dsimp only
      exact jw []
    · obtain rfl : m = 0 := by dsimp only at hge; omega
      rw [bN_0] at hi
      have e : l = beB (bN n) n := by rw [hi.2.2.1, ← hi.1]; rfl
      repeat' ((conv => whnf); (first | refine k0 ?_ | refine jA fun _ => ?_ | refine jB fun _ => ?_ | refine kC (fun _ => ?_) fun _ => ?_ | refine jst ?_ | exact ⟨rfl, rfl⟩ | exact jV | fail))
      all_goals exact ⟨by rw [← e], rfl⟩

theorem cx163 {P : Program} {X : FuncId → List Arg → List (Bool × List Cell) → List (Option (List Cell)) → Prop} {a : List Arg} {Q : List (Bool × List Cell) → List (Option (List Cell)) → Prop} (h : ∃ b vals outs, a = b ∧ D P X (.call 163 b vals outs) ∧ Q vals outs) : CallS P X 163 a Q := ⟨h⟩

def fl1 (l : List UInt8) (k i : Nat) : List UInt8 := l.mapIdx fun j x => if k ≤ j ∧ j < i then x ^^^ 255 else x

theorem fl1_len (l : List UInt8) (k i : Nat) : (fl1 l k i).length = l.length := by unfold fl1; rw [List.length_mapIdx]

theorem fl1_0 {l : List UInt8} {k i : Nat} (h : i ≤ k) : fl1 l k i = l := by
  unfold fl1
  refine List.ext_getElem (by simp) fun j h1 h2 => ?_
  rw [List.getElem_mapIdx, if_neg (by omega)]

theorem fl1_at {l : List UInt8} {k i j : Nat} (h : j < (fl1 l k i).length) : (fl1 l k i)[j] = if k ≤ j ∧ j < i then l[j]'(by rwa [fl1_len] at h) ^^^ 255 else l[j]'(by rwa [fl1_len] at h) := by
  exact List.getElem_mapIdx ..

theorem fl1_set {l : List UInt8} {k i : Nat} (hk : k ≤ i) (h : i < (fl1 l k i).length) : (fl1 l k i).set i ((fl1 l k i)[i] ^^^ 255) = fl1 l k (i + 1) := by
  refine List.ext_getElem (by simp [fl1_len]) fun j h1 h2 => ?_
  rw [List.getElem_set]
  split
  · rename_i e; subst e
    rw [fl1_at, fl1_at, if_neg (by omega), if_pos (by omega)]
  · refine (fl1_at _).trans (Eq.trans ?_ (fl1_at _).symm)
    by_cases q : k ≤ j ∧ j < i
    · rw [if_pos q, if_pos (by omega)]
    · rw [if_neg q, if_neg (by omega)]

theorem fl1_app (a b : List UInt8) : fl1 (a ++ b) a.length (a ++ b).length = a ++ tnB 255 b := by
  unfold fl1 tnB
  refine List.ext_getElem (by simp) fun j h1 h2 => ?_
  rw [List.getElem_mapIdx]
  rw [List.length_mapIdx, List.length_append] at h1
  by_cases q : j < a.length
  · rw [if_neg (by omega), List.getElem_append_left q, List.getElem_append_left q]
  · rw [if_pos (by rw [List.length_append]; omega), List.getElem_append_right (by omega), List.getElem_append_right (by omega), List.getElem_map]

theorem fl1_all (b : List UInt8) : fl1 b 0 b.length = tnB 255 b := fl1_app [] b

theorem notU8 (b : UInt8) : IntKind.u8.wrap ((BitVec.ofInt IntKind.u8.bits 255 ^^^ BitVec.ofInt IntKind.u8.bits (b.toNat : Int)).toNat : Int) = ((b ^^^ 255).toNat : Int) := by
  rw [UInt8.xor_comm]
  exact xorU8 255 b

set_option maxRecDepth 100000 in
theorem tx159 {bs : List UInt8} {k : Nat} (hb : bs.length ≤ 10000000 := by first | assumption | omega | (simp; done) | (simp; omega)) (hk : k ≤ 10000000 := by first | assumption | omega | (simp; done) | (simp; omega)) : T 159 [aE bs, aI (k : Int)] [vE (fl1 bs k bs.length)] [none, none] := by
  refine w_call md [] Tryz.func159 rfl ?_
  repeat' ((conv => whnf); (first | refine Exists.intro (k : Int) (And.intro (by omega) ?_) | refine k0 ?_ | refine jA fun _ => ?_ | refine jB fun _ => ?_ | refine kC (fun _ => ?_) fun _ => ?_ | (apply cx169; refine kl tx169 ?_) | refine jst ?_ | exact ⟨rfl, rfl⟩ | exact jV | fail))
  conv => whnf
  refine loopk (ι := Nat × List UInt8) (fun i => k ≤ i.1 ∧ (i.1 ≤ bs.length ∨ i.1 = k) ∧ i.2 = fl1 bs k i.1) (fun i => bs.length - i.1) ((k, bs)) [] (fun i => [(5, rE 2 i.2), (6, .v false [i6 i.1])]) [none, none, some fun i => nE i.2] ?_
  refine ⟨⟨Nat.le_refl _, .inr rfl, (fl1_0 (Nat.le_refl k)).symm⟩, ?_, fun ⟨i, l⟩ hi => ?_⟩
  · exact jw []
  · dsimp only at hi ⊢
    have hl : l.length = bs.length := by rw [hi.2.2, fl1_len]
    refine ⟨fun hlt => ?_, fun hge => ?_⟩
    · dsimp only at hlt
      have hi2 : i < l.length := by omega
      repeat' ((conv => whnf); (first | refine Exists.intro _ (And.intro (notU8 _) ?_) | refine k0 ?_ | refine jA fun _ => ?_ | refine jB fun _ => ?_ | refine kC (fun _ => ?_) fun _ => ?_ | (apply cx169; refine kl tx169 ?_) | refine jst ?_ | exact ⟨rfl, rfl⟩ | exact jV | fail))
      refine ⟨⟨(i + 1, l.set i (l[i] ^^^ 255)), by simp only; omega, by simp only; omega, ?_⟩, by simp only; omega, ?_⟩
      · simp only
        obtain rfl := hi.2.2
        exact fl1_set hi.1 hi2
      · dsimp only
        exact jw []
    · dsimp only at hge
      have e : l = fl1 bs k bs.length := by
        rw [hi.2.2]
        rcases hi.2.1 with q | q
        · rw [show i = bs.length by omega]
        · subst q
          rw [fl1_0 (Nat.le_refl _), fl1_0 (by omega)]
      repeat' ((conv => whnf); (first | refine k0 ?_ | refine jA fun _ => ?_ | refine jB fun _ => ?_ | refine kC (fun _ => ?_) fun _ => ?_ | (apply cx169; refine kl tx169 ?_) | refine jst ?_ | exact ⟨rfl, rfl⟩ | exact jV | fail))
      all_goals exact ⟨by rw [← e], rfl⟩

theorem cx159 {P : Program} {X : FuncId → List Arg → List (Bool × List Cell) → List (Option (List Cell)) → Prop} {a : List Arg} {Q : List (Bool × List Cell) → List (Option (List Cell)) → Prop} (h : ∃ b vals outs, a = b ∧ D P X (.call 159 b vals outs) ∧ Q vals outs) : CallS P X 159 a Q := ⟨h⟩

set_option maxRecDepth 100000 in
theorem tx164 {bs : List UInt8} {k : Nat} (hb : bs.length ≤ 10000000 := by first | assumption | omega | (simp; done) | (simp; omega)) (hk : k ≤ 10000000 := by first | assumption | omega | (simp; done) | (simp; omega)) : T 164 [aE bs, aI (k : Int)] [vE (fl1 bs k bs.length)] [none, none] := by
  refine w_call md [] Tryz.func164 rfl ?_
  repeat' ((conv => whnf); (first | refine Exists.intro _ (Exists.intro (cs true (_ : List UInt8)) (And.intro rfl (And.intro ⟨Nat.le_refl _, bgb (by omega), bg (by omega)⟩ (Exists.intro _ (And.intro ape (Exists.intro _ (And.intro (Nat.zero_add _) ?_))))))) | refine k0 ?_ | refine jA fun _ => ?_ | refine jB fun _ => ?_ | refine kC (fun _ => ?_) fun _ => ?_ | refine jst ?_ | exact ⟨rfl, rfl⟩ | exact jV | fail))
  conv => whnf
  refine loopk (ι := Nat × List UInt8) (fun i => i.1 ≤ bs.length ∧ i.2 = fl1 bs k i.1) (fun i => bs.length - i.1) ((0, bs)) [1] (fun i => [(5, rE 2 i.2), (6, .v false [i6 i.1])]) [none, none, some fun i => nE i.2] ?_
  refine ⟨⟨Nat.zero_le _, (fl1_0 (Nat.zero_le k)).symm⟩, ?_, fun ⟨i, l⟩ hi => ?_⟩
  · exact jw []
  · dsimp only at hi ⊢
    have hl : l.length = bs.length := by rw [hi.2, fl1_len]
    refine ⟨fun hlt => ?_, fun hge => ?_⟩
    · dsimp only at hlt
      have hi2 : i < l.length := by omega
      by_cases hk2 : k ≤ i
      · repeat' ((conv => whnf); (first | refine Exists.intro _ (And.intro (notU8 _) ?_) | refine k0 ?_ | refine jA fun _ => ?_ | refine jB fun _ => ?_ | refine kC (fun _ => ?_) fun _ => ?_ | refine jst ?_ | exact ⟨rfl, rfl⟩ | exact jV | fail))
        refine ⟨⟨(i + 1, l.set i (l[i] ^^^ 255)), by simp only; omega, ?_⟩, by simp only; omega, ?_⟩
        · simp only
          obtain rfl := hi.2
          exact fl1_set hk2 hi2
        · dsimp only
          exact jw []
      · repeat' ((conv => whnf); (first | refine k0 ?_ | refine jA fun _ => ?_ | refine jB fun _ => ?_ | refine kC (fun _ => ?_) fun _ => ?_ | refine jst ?_ | exact ⟨rfl, rfl⟩ | exact jV | fail))
        refine ⟨⟨(i + 1, l), by simp only; omega, ?_⟩, by simp only; omega, ?_⟩
        · simp only
          rw [hi.2, fl1_0 (by omega), fl1_0 (by omega)]
        · dsimp only
          exact jw []
    · dsimp only at hge
      have e : l = fl1 bs k bs.length := by rw [hi.2, show i = bs.length by omega]
      repeat' ((conv => whnf); (first | refine k0 ?_ | refine jA fun _ => ?_ | refine jB fun _ => ?_ | refine kC (fun _ => ?_) fun _ => ?_ | refine jst ?_ | exact ⟨rfl, rfl⟩ | exact jV | fail))
      all_goals exact ⟨by rw [← e], rfl⟩

theorem cx164 {P : Program} {X : FuncId → List Arg → List (Bool × List Cell) → List (Option (List Cell)) → Prop} {a : List Arg} {Q : List (Bool × List Cell) → List (Option (List Cell)) → Prop} (h : ∃ b vals outs, a = b ∧ D P X (.call 164 b vals outs) ∧ Q vals outs) : CallS P X 164 a Q := ⟨h⟩

set_option maxRecDepth 100000 in
theorem tx146 {bs : List UInt8} {n : Int} (hb : bs.length ≤ 9000000 := by first | assumption | omega | (simp; done) | (simp; omega)) : T 146 [aE bs, aI n] [vE (ptW bs n)] [none, none] := by
  refine w_call md [] Tryz.func146 rfl ?_
  have hc : -1000000000000000 ≤ vrC n ∧ vrC n ≤ 1000000000000000 := by unfold vrC; omega
  have hv : vrC n = max (-1000000000000000) (min n 1000000000000000) := rfl
  unfold ptW
  by_cases h0 : 0 ≤ vrC n
  · rw [vrB_p h0]
    obtain ⟨m, hm⟩ : ∃ m : Nat, vrC n = m := ⟨(vrC n).toNat, by omega⟩
    have hb7 := bN7 (n := m) (by omega)
    have hl := beB_len (bN m) m
    rw [hm]
    have e : vrP m = [UInt8.ofNat (128 + bN m)] ++ beB (bN m) m := rfl
    rw [e, ← List.append_assoc]
    have hL := tx163 (n := m)
    by_cases h1 : n > 1000000000000000
    · obtain rfl : m = 1000000000000000 := by omega
      generalize beB (bN 1000000000000000) 1000000000000000 = l at *
      generalize bN 1000000000000000 = b at *
      subst hl
      repeat' ((conv => whnf); (first | refine Exists.intro _ (Exists.intro (cs true (_ : List UInt8)) (And.intro rfl (And.intro ⟨Nat.le_refl _, bgb (by omega), bg (by omega)⟩ (Exists.intro _ (And.intro ape (Exists.intro _ (And.intro (Nat.zero_add _) ?_))))))) | (apply cx163; refine kl (hL) ?_) | refine Exists.intro ((128 + l.length : Nat) : Int) (And.intro ((i64_in _ (by omega)).trans (by omega)) ?_) | refine Exists.intro _ (And.intro (u8n _) ?_) | refine jap (apB ?_) | refine jap (apE (ys := l) ?_) (srcO (α := UInt8) rfl rfl) | refine k0 ?_ | refine jA fun _ => ?_ | refine jB fun _ => ?_ | refine kC (fun _ => ?_) fun _ => ?_ | (apply cx163; refine kl tx163 ?_) | (apply cx164; refine kl tx164 ?_) | refine jst ?_ | exact ⟨rfl, rfl⟩ | exact jV | fail))
    · obtain rfl : n = m := by omega
      generalize beB (bN m) m = l at *
      generalize bN m = b at *
      subst hl
      repeat' ((conv => whnf); (first | refine Exists.intro _ (Exists.intro (cs true (_ : List UInt8)) (And.intro rfl (And.intro ⟨Nat.le_refl _, bgb (by omega), bg (by omega)⟩ (Exists.intro _ (And.intro ape (Exists.intro _ (And.intro (Nat.zero_add _) ?_))))))) | (apply cx163; refine kl (hL) ?_) | refine Exists.intro ((128 + l.length : Nat) : Int) (And.intro ((i64_in _ (by omega)).trans (by omega)) ?_) | refine Exists.intro _ (And.intro (u8n _) ?_) | refine jap (apB ?_) | refine jap (apE (ys := l) ?_) (srcO (α := UInt8) rfl rfl) | refine k0 ?_ | refine jA fun _ => ?_ | refine jB fun _ => ?_ | refine kC (fun _ => ?_) fun _ => ?_ | (apply cx163; refine kl tx163 ?_) | (apply cx164; refine kl tx164 ?_) | refine jst ?_ | exact ⟨rfl, rfl⟩ | exact jV | fail))
  · rw [vrB_m h0]
    obtain ⟨m, hm⟩ : ∃ m : Nat, -1 - vrC n = m := ⟨(-1 - vrC n).toNat, by omega⟩
    have hb7 := bN7 (n := m) (by omega)
    have hl := beB_len (bN m) m
    have hF : T 164 [aE (beB (bN m) m), aI 0] [vE (tnB 255 (beB (bN m) m))] [none, none] := by
      have h := tx164 (bs := beB (bN m) m) (k := 0)
      rwa [fl1_all] at h
    have hL := tx163 (n := m)
    have e : vrM (vrC n) = [UInt8.ofNat (127 - bN m)] ++ tnB 255 (beB (bN m) m) := by unfold vrM; rw [hm]; simp
    have hl2 := tnB_len 255 (beB (bN m) m)
    rw [e, ← List.append_assoc]
    generalize tnB 255 (beB (bN m) m) = y at *
    generalize beB (bN m) m = l at *
    generalize bN m = b at *
    subst hl
    by_cases h1 : n < -1000000000000000
    · repeat' ((conv => whnf); (first | refine Exists.intro _ (Exists.intro (cs true (_ : List UInt8)) (And.intro rfl (And.intro ⟨Nat.le_refl _, bgb (by omega), bg (by omega)⟩ (Exists.intro _ (And.intro ape (Exists.intro _ (And.intro (Nat.zero_add _) ?_))))))) | (apply cx163; refine kl (hL) ?_) | (apply cx164; refine kl (hF) ?_) | refine Exists.intro ((127 - l.length : Nat) : Int) (And.intro ((i64_in _ (by omega)).trans (by omega)) ?_) | refine Exists.intro ((m : Nat) : Int) (And.intro ((i64_in _ (by omega)).trans (by omega)) ?_) | refine Exists.intro _ (And.intro (u8n _) ?_) | refine jap (apB ?_) | refine jap (apE (ys := y) ?_) (srcO (α := UInt8) rfl rfl) | refine k0 ?_ | refine jA fun _ => ?_ | refine jB fun _ => ?_ | refine kC (fun _ => ?_) fun _ => ?_ | (apply cx163; refine kl tx163 ?_) | (apply cx164; refine kl tx164 ?_) | refine jst ?_ | exact ⟨rfl, rfl⟩ | exact jV | fail))
    · repeat' ((conv => whnf); (first | refine Exists.intro _ (Exists.intro (cs true (_ : List UInt8)) (And.intro rfl (And.intro ⟨Nat.le_refl _, bgb (by omega), bg (by omega)⟩ (Exists.intro _ (And.intro ape (Exists.intro _ (And.intro (Nat.zero_add _) ?_))))))) | (apply cx163; refine kl (hL) ?_) | (apply cx164; refine kl (hF) ?_) | refine Exists.intro ((127 - l.length : Nat) : Int) (And.intro ((i64_in _ (by omega)).trans (by omega)) ?_) | refine Exists.intro ((m : Nat) : Int) (And.intro ((i64_in _ (by omega)).trans (by omega)) ?_) | refine Exists.intro _ (And.intro (u8n _) ?_) | refine jap (apB ?_) | refine jap (apE (ys := y) ?_) (srcO (α := UInt8) rfl rfl) | refine k0 ?_ | refine jA fun _ => ?_ | refine jB fun _ => ?_ | refine kC (fun _ => ?_) fun _ => ?_ | (apply cx163; refine kl tx163 ?_) | (apply cx164; refine kl tx164 ?_) | refine jst ?_ | exact ⟨rfl, rfl⟩ | exact jV | fail))

theorem cx146 {P : Program} {X : FuncId → List Arg → List (Bool × List Cell) → List (Option (List Cell)) → Prop} {a : List Arg} {Q : List (Bool × List Cell) → List (Option (List Cell)) → Prop} (h : ∃ b vals outs, a = b ∧ D P X (.call 146 b vals outs) ∧ Q vals outs) : CallS P X 146 a Q := ⟨h⟩

def esc1 (b : UInt8) : List UInt8 := if b.toNat = 0 then [b, 255] else [b]

def escN (s : ByteArray) : Nat → List UInt8
  | 0 => []
  | i + 1 => escN s i ++ if h : i < s.size then esc1 s[i] else []

theorem escN_len (s : ByteArray) : ∀ i, (escN s i).length ≤ 2 * i
  | 0 => Nat.le_refl _
  | i + 1 => by
    have := escN_len s i
    rw [escN, List.length_append]
    split
    · unfold esc1; split <;> simp <;> omega
    · simp; omega

theorem escN_y {s : ByteArray} {i : Nat} (h : i < s.size) (h0 : s[i].toNat = 0) : escN s (i + 1) = escN s i ++ [s[i], 255] := by rw [escN, dif_pos h, esc1, if_pos h0]

theorem escN_n {s : ByteArray} {i : Nat} (h : i < s.size) (h0 : ¬ s[i].toNat = 0) : escN s (i + 1) = escN s i ++ [s[i]] := by rw [escN, dif_pos h, esc1, if_neg h0]

/-- A text with its end, behind bytes. -/
abbrev ptE (bs : List UInt8) (s : ByteArray) : List UInt8 := bs ++ (escN s s.size ++ [0, 1])

set_option maxRecDepth 100000 in
theorem tx158 {bs : List UInt8} {s : ByteArray} (hb : bs.length ≤ 5000000 := by first | assumption | omega | (simp; done) | (simp; omega)) (hs : s.size ≤ 2000000 := by first | assumption | omega | (simp; done) | (simp; omega)) : T 158 [aO bs, aS s] [vE (ptE bs s)] [none, none] := by
  refine w_call md [] Tryz.func158 rfl ?_
  repeat' ((conv => whnf); (first | refine k0 ?_ | refine jA fun _ => ?_ | refine jB fun _ => ?_ | refine kC (fun _ => ?_) fun _ => ?_ | refine jst ?_ | exact ⟨rfl, rfl⟩ | exact jV | fail))
  conv => whnf
  refine loopk (ι := Nat × List UInt8) (fun i => i.1 ≤ s.size ∧ i.2 = bs ++ escN s i.1) (fun i => s.size - i.1) ((0, bs)) [1] (fun i => [(0, rE 2 i.2), (5, .v false [i6 i.1])]) [some fun _ => none, none, some fun i => nE i.2] ?_
  refine ⟨⟨Nat.zero_le _, by simp [escN]⟩, ?_, fun ⟨i, l⟩ hi => ?_⟩
  · exact jw []
  · dsimp only at hi ⊢
    have hn := escN_len s i
    have hl : l.length ≤ 9000000 := by rw [hi.2, List.length_append]; omega
    refine ⟨fun hlt => ?_, fun hge => ?_⟩
    · dsimp only at hlt
      have hi2 : i < s.size := by omega
      by_cases h0 : s[i].toNat = 0
      · repeat' ((conv => whnf); (first | refine And.intro (by omega) (Exists.intro s[i] (And.intro (sgt hi2) ?_)) | refine jap (apE (ys := [255]) ?_) | refine jap (apB ?_) | refine k0 ?_ | refine jA fun _ => ?_ | refine jB fun _ => ?_ | refine kC (fun _ => ?_) fun _ => ?_ | refine jst ?_ | exact ⟨rfl, rfl⟩ | exact jV | fail))
        refine ⟨⟨(i + 1, l ++ [s[i]] ++ [255]), by simp only; omega, by simp only; rw [escN_y hi2 h0, hi.2]; simp⟩, by simp only; omega, ?_⟩
        dsimp only
        exact jw []
      · repeat' ((conv => whnf); (first | refine And.intro (by omega) (Exists.intro s[i] (And.intro (sgt hi2) ?_)) | refine jap (apE (ys := [255]) ?_) | refine jap (apB ?_) | refine k0 ?_ | refine jA fun _ => ?_ | refine jB fun _ => ?_ | refine kC (fun _ => ?_) fun _ => ?_ | refine jst ?_ | exact ⟨rfl, rfl⟩ | exact jV | fail))
        refine ⟨⟨(i + 1, l ++ [s[i]]), by simp only; omega, by simp only; rw [escN_n hi2 h0, hi.2]; simp⟩, by simp only; omega, ?_⟩
        dsimp only
        exact jw []
    · dsimp only at hge
      have e : l ++ [0, 1] = ptE bs s := by rw [hi.2, show i = s.size by omega]; simp
      repeat' ((conv => whnf); (first | refine jap (apE (ys := [0, 1]) ?_) | refine k0 ?_ | refine jA fun _ => ?_ | refine jB fun _ => ?_ | refine kC (fun _ => ?_) fun _ => ?_ | refine jst ?_ | exact ⟨rfl, rfl⟩ | exact jV | fail))
      all_goals exact ⟨by rw [← e], rfl⟩

theorem cx158 {P : Program} {X : FuncId → List Arg → List (Bool × List Cell) → List (Option (List Cell)) → Prop} {a : List Arg} {Q : List (Bool × List Cell) → List (Option (List Cell)) → Prop} (h : ∃ b vals outs, a = b ∧ D P X (.call 158 b vals outs) ∧ Q vals outs) : CallS P X 158 a Q := ⟨h⟩

set_option maxRecDepth 100000 in
theorem tx175 {bs : List UInt8} {s : ByteArray} (hb : bs.length ≤ 5000000 := by first | assumption | omega | (simp; done) | (simp; omega)) (hs : s.size ≤ 2000000 := by first | assumption | omega | (simp; done) | (simp; omega)) : T 175 [aE bs, aS s] [vE (ptE bs s)] [none, none] := by
  refine w_call md [] Tryz.func175 rfl ?_
  repeat' ((conv => whnf); (first | refine Exists.intro _ (Exists.intro (cs true (_ : List UInt8)) (And.intro rfl (And.intro ⟨Nat.le_refl _, bgb (by omega), bg (by omega)⟩ (Exists.intro _ (And.intro ape (Exists.intro _ (And.intro (Nat.zero_add _) ?_))))))) | refine k0 ?_ | refine jA fun _ => ?_ | refine jB fun _ => ?_ | refine kC (fun _ => ?_) fun _ => ?_ | refine jst ?_ | exact ⟨rfl, rfl⟩ | exact jV | fail))
  conv => whnf
  refine loopk (ι := Nat × List UInt8) (fun i => i.1 ≤ s.size ∧ i.2 = bs ++ escN s i.1) (fun i => s.size - i.1) ((0, bs)) [1] (fun i => [(5, rE 2 i.2), (6, .v false [i6 i.1])]) [none, none, some fun i => nE i.2] ?_
  refine ⟨⟨Nat.zero_le _, by simp [escN]⟩, ?_, fun ⟨i, l⟩ hi => ?_⟩
  · exact jw []
  · dsimp only at hi ⊢
    have hn := escN_len s i
    have hl : l.length ≤ 9000000 := by rw [hi.2, List.length_append]; omega
    refine ⟨fun hlt => ?_, fun hge => ?_⟩
    · dsimp only at hlt
      have hi2 : i < s.size := by omega
      by_cases h0 : s[i].toNat = 0
      · repeat' ((conv => whnf); (first | refine And.intro (by omega) (Exists.intro s[i] (And.intro (sgt hi2) ?_)) | refine jap (apE (ys := [255]) ?_) | refine jap (apB ?_) | refine k0 ?_ | refine jA fun _ => ?_ | refine jB fun _ => ?_ | refine kC (fun _ => ?_) fun _ => ?_ | refine jst ?_ | exact ⟨rfl, rfl⟩ | exact jV | fail))
        refine ⟨⟨(i + 1, l ++ [s[i]] ++ [255]), by simp only; omega, by simp only; rw [escN_y hi2 h0, hi.2]; simp⟩, by simp only; omega, ?_⟩
        dsimp only
        exact jw []
      · repeat' ((conv => whnf); (first | refine And.intro (by omega) (Exists.intro s[i] (And.intro (sgt hi2) ?_)) | refine jap (apE (ys := [255]) ?_) | refine jap (apB ?_) | refine k0 ?_ | refine jA fun _ => ?_ | refine jB fun _ => ?_ | refine kC (fun _ => ?_) fun _ => ?_ | refine jst ?_ | exact ⟨rfl, rfl⟩ | exact jV | fail))
        refine ⟨⟨(i + 1, l ++ [s[i]]), by simp only; omega, by simp only; rw [escN_n hi2 h0, hi.2]; simp⟩, by simp only; omega, ?_⟩
        dsimp only
        exact jw []
    · dsimp only at hge
      have e : l ++ [0, 1] = ptE bs s := by rw [hi.2, show i = s.size by omega]; simp
      repeat' ((conv => whnf); (first | refine jap (apE (ys := [0, 1]) ?_) | refine k0 ?_ | refine jA fun _ => ?_ | refine jB fun _ => ?_ | refine kC (fun _ => ?_) fun _ => ?_ | refine jst ?_ | exact ⟨rfl, rfl⟩ | exact jV | fail))
      all_goals exact ⟨by rw [← e], rfl⟩

theorem cx175 {P : Program} {X : FuncId → List Arg → List (Bool × List Cell) → List (Option (List Cell)) → Prop} {a : List Arg} {Q : List (Bool × List Cell) → List (Option (List Cell)) → Prop} (h : ∃ b vals outs, a = b ∧ D P X (.call 175 b vals outs) ∧ Q vals outs) : CallS P X 175 a Q := ⟨h⟩
end

section
open Go Go.RowKit Go.IntWalk

open Enc (sz cs)

attribute [local irreducible] IntKind.wrap

/-! ### Values behind bytes -/

attribute [local irreducible] vlOk bOf ftV fxN vrB escN beB tnB

theorem vlOk_e {v : Vl} (h : vlOk v = true) : v.s.size ≤ 30 ∧ (v.k = 0 ∨ v.k = 1 ∨ v.k = 2 ∨ v.k = 3 ∨ v.k = 4 ∧ 0 ≤ v.n ∧ v.n ≤ 1) := by
  have hse : ∀ s : ByteArray, s = se → s.size ≤ 30 := fun s e => by rw [e]; decide
  by_cases e0 : v.k = 0
  · rw [vl_0 e0] at h; exact ⟨hse _ (bOf_t h).2, .inl e0⟩
  by_cases e1 : v.k = 1
  · rw [vl_1 e1] at h; exact ⟨hse _ (bOf_t h).2, .inr (.inl e1)⟩
  by_cases e2 : v.k = 2
  · rw [vl_2 e2] at h; exact ⟨hse _ (bOf_t h).2, .inr (.inr (.inl e2))⟩
  by_cases e3 : v.k = 3
  · rw [vl_3 e3] at h; exact ⟨(bOf_t h).2, .inr (.inr (.inr (.inl e3)))⟩
  by_cases e4 : v.k = 4
  · rw [vl_4 e4] at h
    have q := (bOf_t h).1
    simp only [inB_iff] at q
    exact ⟨hse _ (bOf_t h).2, .inr (.inr (.inr (.inr ⟨e4, q⟩)))⟩
  · rw [vl_5 e0 e1 e2 e3 e4] at h; cases h

theorem ftV_e {p : Prt} {v : Vl} (h : ftV p v = true) : vlOk v = true ∧ (v.k = p.type ∧ ¬ v.k = 0 ∨ v.k = 0 ∧ p.null = true) := by
  cases e : vlOk v with
  | false => rw [ftV_f e] at h; cases h
  | true => rw [ftV_t e] at h; exact ⟨rfl, bOf_t h⟩

def valB (v : Vl) : List UInt8 :=
  if v.k = 1 then beB 4 (fxN v.n) else if v.k = 2 then vrB v.n else if v.k = 3 then escN v.s v.s.size ++ [0, 1] else [UInt8.ofNat v.n.toNat]

theorem valB_1 {v : Vl} (h : v.k = 1) : valB v = beB 4 (fxN v.n) := if_pos h

theorem valB_2 {v : Vl} (h : v.k = 2) : valB v = vrB v.n := by unfold valB; rw [if_neg (by omega), if_pos h]

theorem valB_3 {v : Vl} (h : v.k = 3) : valB v = escN v.s v.s.size ++ [0, 1] := by unfold valB; rw [if_neg (by omega), if_neg (by omega), if_pos h]

theorem valB_4 {v : Vl} {m : Nat} (h : v.k = 4) (hm : v.n = m) : valB v = [UInt8.ofNat m] := by unfold valB; rw [if_neg (by omega), if_neg (by omega), if_neg (by omega), hm]; rfl

theorem vrB_len (n : Int) : (vrB n).length ≤ 8 := by
  have hc : -1000000000000000 ≤ vrC n ∧ vrC n ≤ 1000000000000000 := by unfold vrC; omega
  by_cases h : 0 ≤ vrC n
  · rw [vrB_p h, vrP, List.length_cons, beB_len]
    have := bN7 (n := (vrC n).toNat) (by omega)
    omega
  · rw [vrB_m h, vrM, List.length_cons, tnB_len, beB_len]
    have := bN7 (n := (-1 - vrC n).toNat) (by omega)
    omega

theorem valB_len {v : Vl} (h : v.s.size ≤ 2000000) : (valB v).length ≤ 2 * v.s.size + 8 := by
  unfold valB
  split
  · rw [beB_len]; omega
  split
  · have := vrB_len v.n; omega
  split
  · have := escN_len v.s v.s.size
    rw [List.length_append]; simp; omega
  · simp

/-- A value as a part has it, not turned. -/
def bdy (p : Prt) (v : Vl) : List UInt8 := if v.k = 0 then [0] else (match p.null with | true => [1] | false => []) ++ valB v

theorem bdy_0 {p : Prt} {v : Vl} (h : v.k = 0) : bdy p v = [0] := if_pos h

theorem bdy_t {p : Prt} {v : Vl} (h : ¬ v.k = 0) (hp : p.null = true) : bdy p v = [1] ++ valB v := by unfold bdy; rw [if_neg h, hp]

theorem bdy_f {p : Prt} {v : Vl} (h : ¬ v.k = 0) (hp : p.null = false) : bdy p v = valB v := by unfold bdy; rw [if_neg h, hp]; rfl

theorem bdy_len {p : Prt} {v : Vl} (h : v.s.size ≤ 2000000) : (bdy p v).length ≤ 2 * v.s.size + 9 := by
  have := valB_len h
  unfold bdy
  split
  · simp
  · rw [List.length_append]
    split <;> simp <;> omega

noncomputable def prtB (p : Prt) (v : Vl) : List UInt8 :=
  match ptV p && ftV p v with
  | false => []
  | true => match p.desc with
    | true => tnB 255 (bdy p v)
    | false => bdy p v

theorem prtB_0 {p : Prt} {v : Vl} (h : ptV p = false ∨ ftV p v = false) : prtB p v = [] := by
  unfold prtB
  rcases h with h | h
  · rw [h]; rfl
  · rw [h, Bool.and_false]

theorem prtB_d {p : Prt} {v : Vl} (h : ptV p = true) (h2 : ftV p v = true) (hd : p.desc = true) : prtB p v = tnB 255 (bdy p v) := by unfold prtB; rw [h, h2, hd]; rfl

theorem prtB_a {p : Prt} {v : Vl} (h : ptV p = true) (h2 : ftV p v = true) (hd : p.desc = false) : prtB p v = bdy p v := by unfold prtB; rw [h, h2, hd]; rfl

theorem prtB_len {p : Prt} {v : Vl} (h : v.s.size ≤ 2000000) : (prtB p v).length ≤ 2 * v.s.size + 9 := by
  have := bdy_len (p := p) h
  unfold prtB
  split
  · simp
  · split
    · rw [tnB_len]; exact this
    · exact this

attribute [local irreducible] valB bdy

theorem flI {bs out Y : List UInt8} (h : out = bs ++ Y) (hb : out.length ≤ 10000000) : T 159 [aE out, aI (bs.length : Nat)] [vE (bs ++ tnB 255 Y)] [none, none] := by
  subst h
  have hb2 := hb
  rw [List.length_append] at hb2
  have q := tx159 (bs := bs ++ Y) (k := bs.length)
  rwa [fl1_app] at q

theorem flS {bs out Y : List UInt8} (h : out = bs ++ Y) (hb : out.length ≤ 10000000) : T 164 [aE out, aI (bs.length : Nat)] [vE (bs ++ tnB 255 Y)] [none, none] := by
  subst h
  have hb2 := hb
  rw [List.length_append] at hb2
  have q := tx164 (bs := bs ++ Y) (k := bs.length)
  rwa [fl1_app] at q

set_option maxHeartbeats 2000000 in
set_option maxRecDepth 100000 in
theorem tx170 {bs : List UInt8} {v : Vl} (hb : bs.length ≤ 4000000 := by first | assumption | omega | (simp; done) | (simp; omega)) (hs : v.s.size ≤ 2000000 := by first | assumption | omega | (simp; done) | (simp; omega)) (hk : v.k = 1 ∨ v.k = 2 ∨ v.k = 3 ∨ v.k = 4 ∧ 0 ≤ v.n ∧ v.n ≤ 1 := by first | assumption | omega | (simp; done) | (simp; omega)) : T 170 [aE bs, .val true (vlC v)] [vE (bs ++ valB v)] [none, none] := by
  refine w_call md [] Tryz.func170 rfl ?_
  rcases hk with hk | hk | hk | ⟨hk, hn1, hn2⟩
  · rw [valB_1 hk]
    repeat' ((conv => whnf); (first | refine k0 ?_ | refine jA fun _ => ?_ | refine jB fun _ => ?_ | refine kC (fun _ => ?_) fun _ => ?_ | (apply cx174; refine kl tx174 ?_) | (apply cx146; refine kl tx146 ?_) | (apply cx175; refine kl tx175 ?_) | refine jst ?_ | exact ⟨rfl, rfl⟩ | exact jV | fail))
  · rw [valB_2 hk]
    repeat' ((conv => whnf); (first | refine k0 ?_ | refine jA fun _ => ?_ | refine jB fun _ => ?_ | refine kC (fun _ => ?_) fun _ => ?_ | (apply cx174; refine kl tx174 ?_) | (apply cx146; refine kl tx146 ?_) | (apply cx175; refine kl tx175 ?_) | refine jst ?_ | exact ⟨rfl, rfl⟩ | exact jV | fail))
  · rw [valB_3 hk]
    repeat' ((conv => whnf); (first | refine k0 ?_ | refine jA fun _ => ?_ | refine jB fun _ => ?_ | refine kC (fun _ => ?_) fun _ => ?_ | (apply cx174; refine kl tx174 ?_) | (apply cx146; refine kl tx146 ?_) | (apply cx175; refine kl tx175 ?_) | refine jst ?_ | exact ⟨rfl, rfl⟩ | exact jV | fail))
  · obtain ⟨m, hm⟩ : ∃ m : Nat, v.n = m := ⟨v.n.toNat, by omega⟩
    rw [valB_4 hk hm]
    repeat' ((conv => whnf); (first | refine Exists.intro _ (Exists.intro (cs true (_ : List UInt8)) (And.intro rfl (And.intro ⟨Nat.le_refl _, bgb (by omega), bg (by omega)⟩ (Exists.intro _ (And.intro ape (Exists.intro _ (And.intro (Nat.zero_add _) ?_))))))) | refine Exists.intro _ (And.intro ((congrArg _ hm).trans (u8n _)) ?_) | refine jap (apB ?_) | refine k0 ?_ | refine jA fun _ => ?_ | refine jB fun _ => ?_ | refine kC (fun _ => ?_) fun _ => ?_ | (apply cx174; refine kl tx174 ?_) | (apply cx146; refine kl tx146 ?_) | (apply cx175; refine kl tx175 ?_) | refine jst ?_ | exact ⟨rfl, rfl⟩ | exact jV | fail))

theorem cx170 {P : Program} {X : FuncId → List Arg → List (Bool × List Cell) → List (Option (List Cell)) → Prop} {a : List Arg} {Q : List (Bool × List Cell) → List (Option (List Cell)) → Prop} (h : ∃ b vals outs, a = b ∧ D P X (.call 170 b vals outs) ∧ Q vals outs) : CallS P X 170 a Q := ⟨h⟩

set_option maxHeartbeats 2000000 in
set_option maxRecDepth 100000 in
theorem tx139 {bs : List UInt8} {p : Prt} {v : Vl} (hb : bs.length ≤ 3000000 := by first | assumption | omega | (simp; done) | (simp; omega)) (hs : v.s.size ≤ 2000000 := by first | assumption | omega | (simp; done) | (simp; omega)) : T 139 [aO bs, .val true (prtC p), .val true (vlC v)] [vE (bs ++ prtB p v)] [none, none, none] := by
  refine w_call md [] Tryz.func139 rfl ?_
  have hP : T 137 [.val true (prtC p)] [vB (ptV p)] [none] := tx137
  have hF : T 138 [.val true (prtC p), .val true (vlC v)] [vB (ftV p v)] [none, none] := tx138
  have hpn := @bdy_t p v
  have hpf := @bdy_f p v
  cases h1 : ptV p
  · rw [h1] at hP
    rw [prtB_0 (.inl h1), List.append_nil]
    repeat' ((conv => whnf); (first | (apply cx137; refine kl (hP) ?_) | refine Exists.intro _ (Exists.intro (cs true (_ : List UInt8)) (And.intro rfl (And.intro ⟨Nat.le_refl _, bgb (by omega), bg (by omega)⟩ (Exists.intro _ (And.intro ape (Exists.intro _ (And.intro (Nat.zero_add _) ?_))))))) | refine k0 ?_ | refine jA fun _ => ?_ | refine jB fun _ => ?_ | refine kC (fun _ => ?_) fun _ => ?_ | (apply cx137; refine kl tx137 ?_) | (apply cx138; refine kl tx138 ?_) | (apply cx157; refine kl tx157 ?_) | (apply cx88; refine kl tx88 ?_) | (apply cx158; refine kl tx158 ?_) | (apply cx159; refine kl tx159 ?_) | refine jst ?_ | exact ⟨rfl, rfl⟩ | exact jV | fail))
  cases h2 : ftV p v
  · rw [h1] at hP
    rw [h2] at hF
    rw [prtB_0 (.inr h2), List.append_nil]
    repeat' ((conv => whnf); (first | (apply cx137; refine kl (hP) ?_) | (apply cx138; refine kl (hF) ?_) | refine Exists.intro _ (Exists.intro (cs true (_ : List UInt8)) (And.intro rfl (And.intro ⟨Nat.le_refl _, bgb (by omega), bg (by omega)⟩ (Exists.intro _ (And.intro ape (Exists.intro _ (And.intro (Nat.zero_add _) ?_))))))) | refine k0 ?_ | refine jA fun _ => ?_ | refine jB fun _ => ?_ | refine kC (fun _ => ?_) fun _ => ?_ | (apply cx137; refine kl tx137 ?_) | (apply cx138; refine kl tx138 ?_) | (apply cx157; refine kl tx157 ?_) | (apply cx88; refine kl tx88 ?_) | (apply cx158; refine kl tx158 ?_) | (apply cx159; refine kl tx159 ?_) | refine jst ?_ | exact ⟨rfl, rfl⟩ | exact jV | fail))
  have e1 := prtB_d h1 h2
  have e0 := prtB_a h1 h2
  rw [h1] at hP
  rw [h2] at hF
  obtain ⟨hs2, hk⟩ := vlOk_e (ftV_e h2).1
  have hft := (ftV_e h2).2
  obtain ⟨col, type, null, desc⟩ := p
  dsimp only at hpn hpf e1 e0 hft
  have hz := @bdy_0 (Prt.mk col type null desc) v
  generalize bdy _ v = Y at *
  rcases hk with hk | hk
  · obtain rfl : null = true := hft.elim (fun q => absurd hk q.2) (fun q => q.2)
    have hY : bs ++ [0] = bs ++ Y := by rw [hz hk]
    cases desc
    · rw [e0 rfl]
      repeat' ((conv => whnf); (first | (apply cx137; refine kl (hP) ?_) | (apply cx138; refine kl (hF) ?_) | refine Exists.intro _ (Exists.intro (cs true (_ : List UInt8)) (And.intro rfl (And.intro ⟨Nat.le_refl _, bgb (by omega), bg (by omega)⟩ (Exists.intro _ (And.intro ape (Exists.intro _ (And.intro (Nat.zero_add _) ?_))))))) | (apply cx159; refine kl ((flI hY (by simp <;> omega))) ?_) | refine jap (apE (ys := [0]) ?_) | refine k0 ?_ | refine jA fun _ => ?_ | refine jB fun _ => ?_ | refine kC (fun _ => ?_) fun _ => ?_ | (apply cx137; refine kl tx137 ?_) | (apply cx138; refine kl tx138 ?_) | (apply cx157; refine kl tx157 ?_) | (apply cx88; refine kl tx88 ?_) | (apply cx158; refine kl tx158 ?_) | (apply cx159; refine kl tx159 ?_) | refine jst ?_ | exact ⟨rfl, rfl⟩ | exact jV | fail))
      all_goals exact ⟨congrArg (fun l => [vE l]) hY, rfl⟩
    · rw [e1 rfl]
      repeat' ((conv => whnf); (first | (apply cx137; refine kl (hP) ?_) | (apply cx138; refine kl (hF) ?_) | refine Exists.intro _ (Exists.intro (cs true (_ : List UInt8)) (And.intro rfl (And.intro ⟨Nat.le_refl _, bgb (by omega), bg (by omega)⟩ (Exists.intro _ (And.intro ape (Exists.intro _ (And.intro (Nat.zero_add _) ?_))))))) | (apply cx159; refine kl ((flI hY (by simp <;> omega))) ?_) | refine jap (apE (ys := [0]) ?_) | refine k0 ?_ | refine jA fun _ => ?_ | refine jB fun _ => ?_ | refine kC (fun _ => ?_) fun _ => ?_ | (apply cx137; refine kl tx137 ?_) | (apply cx138; refine kl tx138 ?_) | (apply cx157; refine kl tx157 ?_) | (apply cx88; refine kl tx88 ?_) | (apply cx158; refine kl tx158 ?_) | (apply cx159; refine kl tx159 ?_) | refine jst ?_ | exact ⟨rfl, rfl⟩ | exact jV | fail))
      all_goals exact ⟨congrArg (fun l => [vE l]) hY, rfl⟩
  have hk0 : ¬ v.k = 0 := by omega
  rcases hk with hk | hk | hk | ⟨hk, hn1, hn2⟩
  · cases null
    · have hl : (beB 4 (fxN v.n) : List UInt8).length ≤ 2 * v.s.size + 8 := by rw [← valB_1 hk]; exact valB_len hs
      have hY : bs ++ beB 4 (fxN v.n) = bs ++ Y := by rw [hpf hk0 rfl, valB_1 hk]
      cases desc
      · rw [e0 rfl]
        repeat' ((conv => whnf); (first | (apply cx137; refine kl (hP) ?_) | (apply cx138; refine kl (hF) ?_) | refine Exists.intro _ (Exists.intro (cs true (_ : List UInt8)) (And.intro rfl (And.intro ⟨Nat.le_refl _, bgb (by omega), bg (by omega)⟩ (Exists.intro _ (And.intro ape (Exists.intro _ (And.intro (Nat.zero_add _) ?_))))))) | (apply cx159; refine kl ((flI hY (by simp <;> omega))) ?_) | refine jap (apE (ys := [1]) ?_) | refine k0 ?_ | refine jA fun _ => ?_ | refine jB fun _ => ?_ | refine kC (fun _ => ?_) fun _ => ?_ | (apply cx137; refine kl tx137 ?_) | (apply cx138; refine kl tx138 ?_) | (apply cx157; refine kl tx157 ?_) | (apply cx88; refine kl tx88 ?_) | (apply cx158; refine kl tx158 ?_) | (apply cx159; refine kl tx159 ?_) | refine jst ?_ | exact ⟨rfl, rfl⟩ | exact jV | fail))
        all_goals exact ⟨congrArg (fun l => [vE l]) hY, rfl⟩
      · rw [e1 rfl]
        repeat' ((conv => whnf); (first | (apply cx137; refine kl (hP) ?_) | (apply cx138; refine kl (hF) ?_) | refine Exists.intro _ (Exists.intro (cs true (_ : List UInt8)) (And.intro rfl (And.intro ⟨Nat.le_refl _, bgb (by omega), bg (by omega)⟩ (Exists.intro _ (And.intro ape (Exists.intro _ (And.intro (Nat.zero_add _) ?_))))))) | (apply cx159; refine kl ((flI hY (by simp <;> omega))) ?_) | refine jap (apE (ys := [1]) ?_) | refine k0 ?_ | refine jA fun _ => ?_ | refine jB fun _ => ?_ | refine kC (fun _ => ?_) fun _ => ?_ | (apply cx137; refine kl tx137 ?_) | (apply cx138; refine kl tx138 ?_) | (apply cx157; refine kl tx157 ?_) | (apply cx88; refine kl tx88 ?_) | (apply cx158; refine kl tx158 ?_) | (apply cx159; refine kl tx159 ?_) | refine jst ?_ | exact ⟨rfl, rfl⟩ | exact jV | fail))
        all_goals exact ⟨congrArg (fun l => [vE l]) hY, rfl⟩
    · have hl : (beB 4 (fxN v.n) : List UInt8).length ≤ 2 * v.s.size + 8 := by rw [← valB_1 hk]; exact valB_len hs
      have hY : bs ++ [1] ++ beB 4 (fxN v.n) = bs ++ Y := by rw [hpn hk0 rfl, valB_1 hk]; simp
      cases desc
      · rw [e0 rfl]
        repeat' ((conv => whnf); (first | (apply cx137; refine kl (hP) ?_) | (apply cx138; refine kl (hF) ?_) | refine Exists.intro _ (Exists.intro (cs true (_ : List UInt8)) (And.intro rfl (And.intro ⟨Nat.le_refl _, bgb (by omega), bg (by omega)⟩ (Exists.intro _ (And.intro ape (Exists.intro _ (And.intro (Nat.zero_add _) ?_))))))) | (apply cx159; refine kl ((flI hY (by simp <;> omega))) ?_) | refine jap (apE (ys := [1]) ?_) | refine k0 ?_ | refine jA fun _ => ?_ | refine jB fun _ => ?_ | refine kC (fun _ => ?_) fun _ => ?_ | (apply cx137; refine kl tx137 ?_) | (apply cx138; refine kl tx138 ?_) | (apply cx157; refine kl tx157 ?_) | (apply cx88; refine kl tx88 ?_) | (apply cx158; refine kl tx158 ?_) | (apply cx159; refine kl tx159 ?_) | refine jst ?_ | exact ⟨rfl, rfl⟩ | exact jV | fail))
        all_goals exact ⟨congrArg (fun l => [vE l]) hY, rfl⟩
      · rw [e1 rfl]
        repeat' ((conv => whnf); (first | (apply cx137; refine kl (hP) ?_) | (apply cx138; refine kl (hF) ?_) | refine Exists.intro _ (Exists.intro (cs true (_ : List UInt8)) (And.intro rfl (And.intro ⟨Nat.le_refl _, bgb (by omega), bg (by omega)⟩ (Exists.intro _ (And.intro ape (Exists.intro _ (And.intro (Nat.zero_add _) ?_))))))) | (apply cx159; refine kl ((flI hY (by simp <;> omega))) ?_) | refine jap (apE (ys := [1]) ?_) | refine k0 ?_ | refine jA fun _ => ?_ | refine jB fun _ => ?_ | refine kC (fun _ => ?_) fun _ => ?_ | (apply cx137; refine kl tx137 ?_) | (apply cx138; refine kl tx138 ?_) | (apply cx157; refine kl tx157 ?_) | (apply cx88; refine kl tx88 ?_) | (apply cx158; refine kl tx158 ?_) | (apply cx159; refine kl tx159 ?_) | refine jst ?_ | exact ⟨rfl, rfl⟩ | exact jV | fail))
        all_goals exact ⟨congrArg (fun l => [vE l]) hY, rfl⟩
  · cases null
    · have hl : (vrB v.n : List UInt8).length ≤ 2 * v.s.size + 8 := by rw [← valB_2 hk]; exact valB_len hs
      have hY : bs ++ vrB v.n = bs ++ Y := by rw [hpf hk0 rfl, valB_2 hk]
      cases desc
      · rw [e0 rfl]
        repeat' ((conv => whnf); (first | (apply cx137; refine kl (hP) ?_) | (apply cx138; refine kl (hF) ?_) | refine Exists.intro _ (Exists.intro (cs true (_ : List UInt8)) (And.intro rfl (And.intro ⟨Nat.le_refl _, bgb (by omega), bg (by omega)⟩ (Exists.intro _ (And.intro ape (Exists.intro _ (And.intro (Nat.zero_add _) ?_))))))) | (apply cx159; refine kl ((flI hY (by simp <;> omega))) ?_) | refine jap (apE (ys := [1]) ?_) | refine k0 ?_ | refine jA fun _ => ?_ | refine jB fun _ => ?_ | refine kC (fun _ => ?_) fun _ => ?_ | (apply cx137; refine kl tx137 ?_) | (apply cx138; refine kl tx138 ?_) | (apply cx157; refine kl tx157 ?_) | (apply cx88; refine kl tx88 ?_) | (apply cx158; refine kl tx158 ?_) | (apply cx159; refine kl tx159 ?_) | refine jst ?_ | exact ⟨rfl, rfl⟩ | exact jV | fail))
        all_goals exact ⟨congrArg (fun l => [vE l]) hY, rfl⟩
      · rw [e1 rfl]
        repeat' ((conv => whnf); (first | (apply cx137; refine kl (hP) ?_) | (apply cx138; refine kl (hF) ?_) | refine Exists.intro _ (Exists.intro (cs true (_ : List UInt8)) (And.intro rfl (And.intro ⟨Nat.le_refl _, bgb (by omega), bg (by omega)⟩ (Exists.intro _ (And.intro ape (Exists.intro _ (And.intro (Nat.zero_add _) ?_))))))) | (apply cx159; refine kl ((flI hY (by simp <;> omega))) ?_) | refine jap (apE (ys := [1]) ?_) | refine k0 ?_ | refine jA fun _ => ?_ | refine jB fun _ => ?_ | refine kC (fun _ => ?_) fun _ => ?_ | (apply cx137; refine kl tx137 ?_) | (apply cx138; refine kl tx138 ?_) | (apply cx157; refine kl tx157 ?_) | (apply cx88; refine kl tx88 ?_) | (apply cx158; refine kl tx158 ?_) | (apply cx159; refine kl tx159 ?_) | refine jst ?_ | exact ⟨rfl, rfl⟩ | exact jV | fail))
        all_goals exact ⟨congrArg (fun l => [vE l]) hY, rfl⟩
    · have hl : (vrB v.n : List UInt8).length ≤ 2 * v.s.size + 8 := by rw [← valB_2 hk]; exact valB_len hs
      have hY : bs ++ [1] ++ vrB v.n = bs ++ Y := by rw [hpn hk0 rfl, valB_2 hk]; simp
      cases desc
      · rw [e0 rfl]
        repeat' ((conv => whnf); (first | (apply cx137; refine kl (hP) ?_) | (apply cx138; refine kl (hF) ?_) | refine Exists.intro _ (Exists.intro (cs true (_ : List UInt8)) (And.intro rfl (And.intro ⟨Nat.le_refl _, bgb (by omega), bg (by omega)⟩ (Exists.intro _ (And.intro ape (Exists.intro _ (And.intro (Nat.zero_add _) ?_))))))) | (apply cx159; refine kl ((flI hY (by simp <;> omega))) ?_) | refine jap (apE (ys := [1]) ?_) | refine k0 ?_ | refine jA fun _ => ?_ | refine jB fun _ => ?_ | refine kC (fun _ => ?_) fun _ => ?_ | (apply cx137; refine kl tx137 ?_) | (apply cx138; refine kl tx138 ?_) | (apply cx157; refine kl tx157 ?_) | (apply cx88; refine kl tx88 ?_) | (apply cx158; refine kl tx158 ?_) | (apply cx159; refine kl tx159 ?_) | refine jst ?_ | exact ⟨rfl, rfl⟩ | exact jV | fail))
        all_goals exact ⟨congrArg (fun l => [vE l]) hY, rfl⟩
      · rw [e1 rfl]
        repeat' ((conv => whnf); (first | (apply cx137; refine kl (hP) ?_) | (apply cx138; refine kl (hF) ?_) | refine Exists.intro _ (Exists.intro (cs true (_ : List UInt8)) (And.intro rfl (And.intro ⟨Nat.le_refl _, bgb (by omega), bg (by omega)⟩ (Exists.intro _ (And.intro ape (Exists.intro _ (And.intro (Nat.zero_add _) ?_))))))) | (apply cx159; refine kl ((flI hY (by simp <;> omega))) ?_) | refine jap (apE (ys := [1]) ?_) | refine k0 ?_ | refine jA fun _ => ?_ | refine jB fun _ => ?_ | refine kC (fun _ => ?_) fun _ => ?_ | (apply cx137; refine kl tx137 ?_) | (apply cx138; refine kl tx138 ?_) | (apply cx157; refine kl tx157 ?_) | (apply cx88; refine kl tx88 ?_) | (apply cx158; refine kl tx158 ?_) | (apply cx159; refine kl tx159 ?_) | refine jst ?_ | exact ⟨rfl, rfl⟩ | exact jV | fail))
        all_goals exact ⟨congrArg (fun l => [vE l]) hY, rfl⟩
  · cases null
    · have hl : ((escN v.s v.s.size ++ [0, 1]) : List UInt8).length ≤ 2 * v.s.size + 8 := by rw [← valB_3 hk]; exact valB_len hs
      have hl2 := escN_len v.s v.s.size
      have hY : bs ++ (escN v.s v.s.size ++ [0, 1]) = bs ++ Y := by rw [hpf hk0 rfl, valB_3 hk]
      cases desc
      · rw [e0 rfl]
        repeat' ((conv => whnf); (first | (apply cx137; refine kl (hP) ?_) | (apply cx138; refine kl (hF) ?_) | refine Exists.intro _ (Exists.intro (cs true (_ : List UInt8)) (And.intro rfl (And.intro ⟨Nat.le_refl _, bgb (by omega), bg (by omega)⟩ (Exists.intro _ (And.intro ape (Exists.intro _ (And.intro (Nat.zero_add _) ?_))))))) | (apply cx159; refine kl ((flI hY (by simp <;> omega))) ?_) | refine jap (apE (ys := [1]) ?_) | refine k0 ?_ | refine jA fun _ => ?_ | refine jB fun _ => ?_ | refine kC (fun _ => ?_) fun _ => ?_ | (apply cx137; refine kl tx137 ?_) | (apply cx138; refine kl tx138 ?_) | (apply cx157; refine kl tx157 ?_) | (apply cx88; refine kl tx88 ?_) | (apply cx158; refine kl tx158 ?_) | (apply cx159; refine kl tx159 ?_) | refine jst ?_ | exact ⟨rfl, rfl⟩ | exact jV | fail))
        all_goals exact ⟨congrArg (fun l => [vE l]) hY, rfl⟩
      · rw [e1 rfl]
        repeat' ((conv => whnf); (first | (apply cx137; refine kl (hP) ?_) | (apply cx138; refine kl (hF) ?_) | refine Exists.intro _ (Exists.intro (cs true (_ : List UInt8)) (And.intro rfl (And.intro ⟨Nat.le_refl _, bgb (by omega), bg (by omega)⟩ (Exists.intro _ (And.intro ape (Exists.intro _ (And.intro (Nat.zero_add _) ?_))))))) | (apply cx159; refine kl ((flI hY (by simp <;> omega))) ?_) | refine jap (apE (ys := [1]) ?_) | refine k0 ?_ | refine jA fun _ => ?_ | refine jB fun _ => ?_ | refine kC (fun _ => ?_) fun _ => ?_ | (apply cx137; refine kl tx137 ?_) | (apply cx138; refine kl tx138 ?_) | (apply cx157; refine kl tx157 ?_) | (apply cx88; refine kl tx88 ?_) | (apply cx158; refine kl tx158 ?_) | (apply cx159; refine kl tx159 ?_) | refine jst ?_ | exact ⟨rfl, rfl⟩ | exact jV | fail))
        all_goals exact ⟨congrArg (fun l => [vE l]) hY, rfl⟩
    · have hl : ((escN v.s v.s.size ++ [0, 1]) : List UInt8).length ≤ 2 * v.s.size + 8 := by rw [← valB_3 hk]; exact valB_len hs
      have hl2 := escN_len v.s v.s.size
      have hY : bs ++ [1] ++ (escN v.s v.s.size ++ [0, 1]) = bs ++ Y := by rw [hpn hk0 rfl, valB_3 hk]; simp
      cases desc
      · rw [e0 rfl]
        repeat' ((conv => whnf); (first | (apply cx137; refine kl (hP) ?_) | (apply cx138; refine kl (hF) ?_) | refine Exists.intro _ (Exists.intro (cs true (_ : List UInt8)) (And.intro rfl (And.intro ⟨Nat.le_refl _, bgb (by omega), bg (by omega)⟩ (Exists.intro _ (And.intro ape (Exists.intro _ (And.intro (Nat.zero_add _) ?_))))))) | (apply cx159; refine kl ((flI hY (by simp <;> omega))) ?_) | refine jap (apE (ys := [1]) ?_) | refine k0 ?_ | refine jA fun _ => ?_ | refine jB fun _ => ?_ | refine kC (fun _ => ?_) fun _ => ?_ | (apply cx137; refine kl tx137 ?_) | (apply cx138; refine kl tx138 ?_) | (apply cx157; refine kl tx157 ?_) | (apply cx88; refine kl tx88 ?_) | (apply cx158; refine kl tx158 ?_) | (apply cx159; refine kl tx159 ?_) | refine jst ?_ | exact ⟨rfl, rfl⟩ | exact jV | fail))
        all_goals exact ⟨congrArg (fun l => [vE l]) hY, rfl⟩
      · rw [e1 rfl]
        repeat' ((conv => whnf); (first | (apply cx137; refine kl (hP) ?_) | (apply cx138; refine kl (hF) ?_) | refine Exists.intro _ (Exists.intro (cs true (_ : List UInt8)) (And.intro rfl (And.intro ⟨Nat.le_refl _, bgb (by omega), bg (by omega)⟩ (Exists.intro _ (And.intro ape (Exists.intro _ (And.intro (Nat.zero_add _) ?_))))))) | (apply cx159; refine kl ((flI hY (by simp <;> omega))) ?_) | refine jap (apE (ys := [1]) ?_) | refine k0 ?_ | refine jA fun _ => ?_ | refine jB fun _ => ?_ | refine kC (fun _ => ?_) fun _ => ?_ | (apply cx137; refine kl tx137 ?_) | (apply cx138; refine kl tx138 ?_) | (apply cx157; refine kl tx157 ?_) | (apply cx88; refine kl tx88 ?_) | (apply cx158; refine kl tx158 ?_) | (apply cx159; refine kl tx159 ?_) | refine jst ?_ | exact ⟨rfl, rfl⟩ | exact jV | fail))
        all_goals exact ⟨congrArg (fun l => [vE l]) hY, rfl⟩
  · obtain ⟨m, hm⟩ : ∃ m : Nat, v.n = m := ⟨v.n.toNat, by omega⟩
    cases null
    · have hl : ([UInt8.ofNat m] : List UInt8).length ≤ 2 * v.s.size + 8 := by rw [← valB_4 hk hm]; exact valB_len hs
      have hY : bs ++ [UInt8.ofNat m] = bs ++ Y := by rw [hpf hk0 rfl, valB_4 hk hm]
      cases desc
      · rw [e0 rfl]
        repeat' ((conv => whnf); (first | (apply cx137; refine kl (hP) ?_) | (apply cx138; refine kl (hF) ?_) | refine Exists.intro _ (Exists.intro (cs true (_ : List UInt8)) (And.intro rfl (And.intro ⟨Nat.le_refl _, bgb (by omega), bg (by omega)⟩ (Exists.intro _ (And.intro ape (Exists.intro _ (And.intro (Nat.zero_add _) ?_))))))) | (apply cx159; refine kl ((flI hY (by simp <;> omega))) ?_) | refine jap (apE (ys := [1]) ?_) | refine Exists.intro _ (And.intro ((congrArg _ hm).trans (u8n _)) ?_) | refine jap (apB ?_) | refine k0 ?_ | refine jA fun _ => ?_ | refine jB fun _ => ?_ | refine kC (fun _ => ?_) fun _ => ?_ | (apply cx137; refine kl tx137 ?_) | (apply cx138; refine kl tx138 ?_) | (apply cx157; refine kl tx157 ?_) | (apply cx88; refine kl tx88 ?_) | (apply cx158; refine kl tx158 ?_) | (apply cx159; refine kl tx159 ?_) | refine jst ?_ | exact ⟨rfl, rfl⟩ | exact jV | fail))
        all_goals exact ⟨congrArg (fun l => [vE l]) hY, rfl⟩
      · rw [e1 rfl]
        repeat' ((conv => whnf); (first | (apply cx137; refine kl (hP) ?_) | (apply cx138; refine kl (hF) ?_) | refine Exists.intro _ (Exists.intro (cs true (_ : List UInt8)) (And.intro rfl (And.intro ⟨Nat.le_refl _, bgb (by omega), bg (by omega)⟩ (Exists.intro _ (And.intro ape (Exists.intro _ (And.intro (Nat.zero_add _) ?_))))))) | (apply cx159; refine kl ((flI hY (by simp <;> omega))) ?_) | refine jap (apE (ys := [1]) ?_) | refine Exists.intro _ (And.intro ((congrArg _ hm).trans (u8n _)) ?_) | refine jap (apB ?_) | refine k0 ?_ | refine jA fun _ => ?_ | refine jB fun _ => ?_ | refine kC (fun _ => ?_) fun _ => ?_ | (apply cx137; refine kl tx137 ?_) | (apply cx138; refine kl tx138 ?_) | (apply cx157; refine kl tx157 ?_) | (apply cx88; refine kl tx88 ?_) | (apply cx158; refine kl tx158 ?_) | (apply cx159; refine kl tx159 ?_) | refine jst ?_ | exact ⟨rfl, rfl⟩ | exact jV | fail))
        all_goals exact ⟨congrArg (fun l => [vE l]) hY, rfl⟩
    · have hl : ([UInt8.ofNat m] : List UInt8).length ≤ 2 * v.s.size + 8 := by rw [← valB_4 hk hm]; exact valB_len hs
      have hY : bs ++ [1] ++ [UInt8.ofNat m] = bs ++ Y := by rw [hpn hk0 rfl, valB_4 hk hm]; simp
      cases desc
      · rw [e0 rfl]
        repeat' ((conv => whnf); (first | (apply cx137; refine kl (hP) ?_) | (apply cx138; refine kl (hF) ?_) | refine Exists.intro _ (Exists.intro (cs true (_ : List UInt8)) (And.intro rfl (And.intro ⟨Nat.le_refl _, bgb (by omega), bg (by omega)⟩ (Exists.intro _ (And.intro ape (Exists.intro _ (And.intro (Nat.zero_add _) ?_))))))) | (apply cx159; refine kl ((flI hY (by simp <;> omega))) ?_) | refine jap (apE (ys := [1]) ?_) | refine Exists.intro _ (And.intro ((congrArg _ hm).trans (u8n _)) ?_) | refine jap (apB ?_) | refine k0 ?_ | refine jA fun _ => ?_ | refine jB fun _ => ?_ | refine kC (fun _ => ?_) fun _ => ?_ | (apply cx137; refine kl tx137 ?_) | (apply cx138; refine kl tx138 ?_) | (apply cx157; refine kl tx157 ?_) | (apply cx88; refine kl tx88 ?_) | (apply cx158; refine kl tx158 ?_) | (apply cx159; refine kl tx159 ?_) | refine jst ?_ | exact ⟨rfl, rfl⟩ | exact jV | fail))
        all_goals exact ⟨congrArg (fun l => [vE l]) hY, rfl⟩
      · rw [e1 rfl]
        repeat' ((conv => whnf); (first | (apply cx137; refine kl (hP) ?_) | (apply cx138; refine kl (hF) ?_) | refine Exists.intro _ (Exists.intro (cs true (_ : List UInt8)) (And.intro rfl (And.intro ⟨Nat.le_refl _, bgb (by omega), bg (by omega)⟩ (Exists.intro _ (And.intro ape (Exists.intro _ (And.intro (Nat.zero_add _) ?_))))))) | (apply cx159; refine kl ((flI hY (by simp <;> omega))) ?_) | refine jap (apE (ys := [1]) ?_) | refine Exists.intro _ (And.intro ((congrArg _ hm).trans (u8n _)) ?_) | refine jap (apB ?_) | refine k0 ?_ | refine jA fun _ => ?_ | refine jB fun _ => ?_ | refine kC (fun _ => ?_) fun _ => ?_ | (apply cx137; refine kl tx137 ?_) | (apply cx138; refine kl tx138 ?_) | (apply cx157; refine kl tx157 ?_) | (apply cx88; refine kl tx88 ?_) | (apply cx158; refine kl tx158 ?_) | (apply cx159; refine kl tx159 ?_) | refine jst ?_ | exact ⟨rfl, rfl⟩ | exact jV | fail))
        all_goals exact ⟨congrArg (fun l => [vE l]) hY, rfl⟩

theorem cx139 {P : Program} {X : FuncId → List Arg → List (Bool × List Cell) → List (Option (List Cell)) → Prop} {a : List Arg} {Q : List (Bool × List Cell) → List (Option (List Cell)) → Prop} (h : ∃ b vals outs, a = b ∧ D P X (.call 139 b vals outs) ∧ Q vals outs) : CallS P X 139 a Q := ⟨h⟩

set_option maxHeartbeats 2000000 in
set_option maxRecDepth 100000 in
theorem tx162 {bs : List UInt8} {p : Prt} {v : Vl} (hb : bs.length ≤ 3000000 := by first | assumption | omega | (simp; done) | (simp; omega)) (hs : v.s.size ≤ 2000000 := by first | assumption | omega | (simp; done) | (simp; omega)) : T 162 [aE bs, .val true (prtC p), .val true (vlC v)] [vE (bs ++ prtB p v)] [none, none, none] := by
  refine w_call md [] Tryz.func162 rfl ?_
  have hP : T 140 [.val true (prtC p)] [vB (ptV p)] [none] := tx140
  have hF : T 141 [.val true (prtC p), .val true (vlC v)] [vB (ftV p v)] [none, none] := tx141
  have hpn := @bdy_t p v
  have hpf := @bdy_f p v
  cases h1 : ptV p
  · rw [h1] at hP
    rw [prtB_0 (.inl h1), List.append_nil]
    repeat' ((conv => whnf); (first | (apply cx140; refine kl (hP) ?_) | refine Exists.intro _ (Exists.intro (cs true (_ : List UInt8)) (And.intro rfl (And.intro ⟨Nat.le_refl _, bgb (by omega), bg (by omega)⟩ (Exists.intro _ (And.intro ape (Exists.intro _ (And.intro (Nat.zero_add _) ?_))))))) | refine k0 ?_ | refine jA fun _ => ?_ | refine jB fun _ => ?_ | refine kC (fun _ => ?_) fun _ => ?_ | (apply cx140; refine kl tx140 ?_) | (apply cx141; refine kl tx141 ?_) | (apply cx170; refine kl tx170 ?_) | (apply cx164; refine kl tx164 ?_) | refine jst ?_ | exact ⟨rfl, rfl⟩ | exact jV | fail))
  cases h2 : ftV p v
  · rw [h1] at hP
    rw [h2] at hF
    rw [prtB_0 (.inr h2), List.append_nil]
    repeat' ((conv => whnf); (first | (apply cx140; refine kl (hP) ?_) | (apply cx141; refine kl (hF) ?_) | refine Exists.intro _ (Exists.intro (cs true (_ : List UInt8)) (And.intro rfl (And.intro ⟨Nat.le_refl _, bgb (by omega), bg (by omega)⟩ (Exists.intro _ (And.intro ape (Exists.intro _ (And.intro (Nat.zero_add _) ?_))))))) | refine k0 ?_ | refine jA fun _ => ?_ | refine jB fun _ => ?_ | refine kC (fun _ => ?_) fun _ => ?_ | (apply cx140; refine kl tx140 ?_) | (apply cx141; refine kl tx141 ?_) | (apply cx170; refine kl tx170 ?_) | (apply cx164; refine kl tx164 ?_) | refine jst ?_ | exact ⟨rfl, rfl⟩ | exact jV | fail))
  have e1 := prtB_d h1 h2
  have e0 := prtB_a h1 h2
  rw [h1] at hP
  rw [h2] at hF
  obtain ⟨hs2, hk⟩ := vlOk_e (ftV_e h2).1
  have hft := (ftV_e h2).2
  obtain ⟨col, type, null, desc⟩ := p
  dsimp only at hpn hpf e1 e0 hft
  have hz := @bdy_0 (Prt.mk col type null desc) v
  generalize bdy _ v = Y at *
  rcases hk with hk | hk
  · have hY : bs ++ [0] = bs ++ Y := by rw [hz hk]
    cases desc
    · rw [e0 rfl]
      repeat' ((conv => whnf); (first | (apply cx140; refine kl (hP) ?_) | (apply cx141; refine kl (hF) ?_) | refine Exists.intro _ (Exists.intro (cs true (_ : List UInt8)) (And.intro rfl (And.intro ⟨Nat.le_refl _, bgb (by omega), bg (by omega)⟩ (Exists.intro _ (And.intro ape (Exists.intro _ (And.intro (Nat.zero_add _) ?_))))))) | (apply cx164; refine kl ((flS hY (by simp <;> omega))) ?_) | refine jap (apE (ys := [0]) ?_) | refine k0 ?_ | refine jA fun _ => ?_ | refine jB fun _ => ?_ | refine kC (fun _ => ?_) fun _ => ?_ | (apply cx140; refine kl tx140 ?_) | (apply cx141; refine kl tx141 ?_) | (apply cx170; refine kl tx170 ?_) | (apply cx164; refine kl tx164 ?_) | refine jst ?_ | exact ⟨rfl, rfl⟩ | exact jV | fail))
      all_goals exact ⟨congrArg (fun l => [vE l]) hY, rfl⟩
    · rw [e1 rfl]
      repeat' ((conv => whnf); (first | (apply cx140; refine kl (hP) ?_) | (apply cx141; refine kl (hF) ?_) | refine Exists.intro _ (Exists.intro (cs true (_ : List UInt8)) (And.intro rfl (And.intro ⟨Nat.le_refl _, bgb (by omega), bg (by omega)⟩ (Exists.intro _ (And.intro ape (Exists.intro _ (And.intro (Nat.zero_add _) ?_))))))) | (apply cx164; refine kl ((flS hY (by simp <;> omega))) ?_) | refine jap (apE (ys := [0]) ?_) | refine k0 ?_ | refine jA fun _ => ?_ | refine jB fun _ => ?_ | refine kC (fun _ => ?_) fun _ => ?_ | (apply cx140; refine kl tx140 ?_) | (apply cx141; refine kl tx141 ?_) | (apply cx170; refine kl tx170 ?_) | (apply cx164; refine kl tx164 ?_) | refine jst ?_ | exact ⟨rfl, rfl⟩ | exact jV | fail))
      all_goals exact ⟨congrArg (fun l => [vE l]) hY, rfl⟩
  have hk0 : ¬ v.k = 0 := by omega
  have hl := valB_len (v := v) hs
  cases null
  · have hY : bs ++ valB v = bs ++ Y := by rw [hpf hk0 rfl]
    cases desc
    · rw [e0 rfl]
      repeat' ((conv => whnf); (first | (apply cx140; refine kl (hP) ?_) | (apply cx141; refine kl (hF) ?_) | refine Exists.intro _ (Exists.intro (cs true (_ : List UInt8)) (And.intro rfl (And.intro ⟨Nat.le_refl _, bgb (by omega), bg (by omega)⟩ (Exists.intro _ (And.intro ape (Exists.intro _ (And.intro (Nat.zero_add _) ?_))))))) | (apply cx164; refine kl ((flS hY (by simp <;> omega))) ?_) | refine jap (apE (ys := [1]) ?_) | refine k0 ?_ | refine jA fun _ => ?_ | refine jB fun _ => ?_ | refine kC (fun _ => ?_) fun _ => ?_ | (apply cx140; refine kl tx140 ?_) | (apply cx141; refine kl tx141 ?_) | (apply cx170; refine kl tx170 ?_) | (apply cx164; refine kl tx164 ?_) | refine jst ?_ | exact ⟨rfl, rfl⟩ | exact jV | fail))
      all_goals exact ⟨congrArg (fun l => [vE l]) hY, rfl⟩
    · rw [e1 rfl]
      repeat' ((conv => whnf); (first | (apply cx140; refine kl (hP) ?_) | (apply cx141; refine kl (hF) ?_) | refine Exists.intro _ (Exists.intro (cs true (_ : List UInt8)) (And.intro rfl (And.intro ⟨Nat.le_refl _, bgb (by omega), bg (by omega)⟩ (Exists.intro _ (And.intro ape (Exists.intro _ (And.intro (Nat.zero_add _) ?_))))))) | (apply cx164; refine kl ((flS hY (by simp <;> omega))) ?_) | refine jap (apE (ys := [1]) ?_) | refine k0 ?_ | refine jA fun _ => ?_ | refine jB fun _ => ?_ | refine kC (fun _ => ?_) fun _ => ?_ | (apply cx140; refine kl tx140 ?_) | (apply cx141; refine kl tx141 ?_) | (apply cx170; refine kl tx170 ?_) | (apply cx164; refine kl tx164 ?_) | refine jst ?_ | exact ⟨rfl, rfl⟩ | exact jV | fail))
      all_goals exact ⟨congrArg (fun l => [vE l]) hY, rfl⟩
  · have hY : bs ++ [1] ++ valB v = bs ++ Y := by rw [hpn hk0 rfl]; simp
    cases desc
    · rw [e0 rfl]
      repeat' ((conv => whnf); (first | (apply cx140; refine kl (hP) ?_) | (apply cx141; refine kl (hF) ?_) | refine Exists.intro _ (Exists.intro (cs true (_ : List UInt8)) (And.intro rfl (And.intro ⟨Nat.le_refl _, bgb (by omega), bg (by omega)⟩ (Exists.intro _ (And.intro ape (Exists.intro _ (And.intro (Nat.zero_add _) ?_))))))) | (apply cx164; refine kl ((flS hY (by simp <;> omega))) ?_) | refine jap (apE (ys := [1]) ?_) | refine k0 ?_ | refine jA fun _ => ?_ | refine jB fun _ => ?_ | refine kC (fun _ => ?_) fun _ => ?_ | (apply cx140; refine kl tx140 ?_) | (apply cx141; refine kl tx141 ?_) | (apply cx170; refine kl tx170 ?_) | (apply cx164; refine kl tx164 ?_) | refine jst ?_ | exact ⟨rfl, rfl⟩ | exact jV | fail))
      all_goals exact ⟨congrArg (fun l => [vE l]) hY, rfl⟩
    · rw [e1 rfl]
      repeat' ((conv => whnf); (first | (apply cx140; refine kl (hP) ?_) | (apply cx141; refine kl (hF) ?_) | refine Exists.intro _ (Exists.intro (cs true (_ : List UInt8)) (And.intro rfl (And.intro ⟨Nat.le_refl _, bgb (by omega), bg (by omega)⟩ (Exists.intro _ (And.intro ape (Exists.intro _ (And.intro (Nat.zero_add _) ?_))))))) | (apply cx164; refine kl ((flS hY (by simp <;> omega))) ?_) | refine jap (apE (ys := [1]) ?_) | refine k0 ?_ | refine jA fun _ => ?_ | refine jB fun _ => ?_ | refine kC (fun _ => ?_) fun _ => ?_ | (apply cx140; refine kl tx140 ?_) | (apply cx141; refine kl tx141 ?_) | (apply cx170; refine kl tx170 ?_) | (apply cx164; refine kl tx164 ?_) | refine jst ?_ | exact ⟨rfl, rfl⟩ | exact jV | fail))
      all_goals exact ⟨congrArg (fun l => [vE l]) hY, rfl⟩

theorem cx162 {P : Program} {X : FuncId → List Arg → List (Bool × List Cell) → List (Option (List Cell)) → Prop} {a : List Arg} {Q : List (Bool × List Cell) → List (Option (List Cell)) → Prop} (h : ∃ b vals outs, a = b ∧ D P X (.call 162 b vals outs) ∧ Q vals outs) : CallS P X 162 a Q := ⟨h⟩
end

end Go.Proofs.YtddikflnjloagaaGreatDoor
