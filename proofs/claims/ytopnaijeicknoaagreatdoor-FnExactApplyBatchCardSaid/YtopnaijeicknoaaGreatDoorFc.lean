/- Functions of the program, each with what it gives back. -/
import Derived.Test.YtopnaijeicknoaaGreatDoorKe
import Derived.Test.YtopnaijeicknoaaGreatDoorChecked
import Derived.IntWalk
import Derived.Test.YtopnaijeicknoaaGreatDoorFb
namespace Go.Proofs.YtopnaijeicknoaaGreatDoor
open Go Go.RowKit Go.IntWalk
open Enc (sz cs)
attribute [local irreducible] IntKind.wrap

set_option maxRecDepth 100000 in
theorem tx168 {bs : List UInt8} (hb : bs.length ≤ 1000000000000 := by first | assumption | omega | (simp; done) | (simp; omega)) : T 168 [aE bs] [vI (crcN bs)] [none] := by
  refine w_call md [] Tryz.func168 rfl ?_
  repeat' ((conv => whnf); (first | refine k0 ?_ | refine jA fun _ => ?_ | refine jB fun _ => ?_ | refine kC (fun _ => ?_) fun _ => ?_ | refine jst ?_ | exact ⟨rfl, rfl⟩ | exact jV | fail))
  conv => whnf
  refine loopk (ι := Nat) (fun i => i ≤ bs.length) (fun i => bs.length - i) (0) [0] (fun i => [(3, .v false [i6 (crcX (bs.take i))]), (4, .v false [i6 i])]) [none] ?_
  refine ⟨by omega, ?_, fun i hi => ?_⟩
  · exact jw []
  · have hx := crcX_lt (bs.take i)
    refine ⟨fun hlt => ?_, fun hge => ?_⟩
    · have hi2 : i < bs.length := by omega
      have hy := u8_lt bs[i]
      have hz := xor_lt32 hx (show bs[i].toNat < 4294967296 by omega)
      repeat' ((conv => whnf); (first | refine Exists.intro _ (And.intro (i64_of (n := bs[i].toNat) (by omega)) ?_) | refine Exists.intro _ (And.intro (xor64 hx (by omega)) ?_) | refine k0 ?_ | refine jA fun _ => ?_ | refine jB fun _ => ?_ | refine kC (fun _ => ?_) fun _ => ?_ | refine jst ?_ | exact ⟨rfl, rfl⟩ | exact jV | fail))
      generalize hx0 : crcX (bs.take i) ^^^ bs[i].toNat = x0 at hz
      conv => whnf
      refine loopk (ι := Nat) (fun i => i ≤ 8) (fun i => 8 - i) (0) [0, 4] (fun i => [(3, .v false [i6 (stepsN i x0)]), (5, .v false [i6 i])]) [none] ?_
      refine ⟨by omega, ?_, fun k hk => ?_⟩
      · exact jw []
      · have hs := stepsN_lt hz k
        refine ⟨fun hlt2 => ?_, fun hge2 => ?_⟩
        · repeat' ((conv => whnf); (first | refine Exists.intro _ (And.intro (and1 (m := stepsN k x0) (by omega)) ?_) | refine And.intro (by decide) (Exists.intro _ (And.intro (shr1 (stepsN k x0)) ?_)) | refine Exists.intro _ (And.intro (xor64 (b := 2197175160) (by omega) (by omega)) ?_) | refine k0 ?_ | refine jA fun _ => ?_ | refine jB fun _ => ?_ | refine kC (fun _ => ?_) fun _ => ?_ | refine jst ?_ | exact ⟨rfl, rfl⟩ | exact jV | fail))
          · refine ⟨⟨k + 1, by omega⟩, by simp only; omega, ?_⟩
            have e : TV.v false [i6 ((stepsN k x0 / 2 ^^^ 2197175160 : Nat) : Int)] = TV.v false [i6 ((stepN (stepsN k x0) : Nat) : Int)] := by
              rw [stepN, if_pos (by omega)]
            exact w_autoX [] (by (conv => whnf); exact And.intro (by kernel_rfl) (And.intro (by kernel_rfl) (by repeat' (first | (with_reducible exact rfl) | ((conv => whnf); first | exact trivial | exact e | exact rfl | exact tvi (by first | omega | (dsimp only; omega) | (simp; done)) | exact tvr (by first | omega | (dsimp only; omega) | (simp; done) | (simp; omega)) | exact ⟨rfl, clo_i, by first | rfl | rw [List.take_length] | assumption⟩ | refine And.intro ?_ ?_)))))
          · refine ⟨⟨k + 1, by omega⟩, by simp only; omega, ?_⟩
            have e : TV.v false [i6 ((stepsN k x0 / 2 : Nat) : Int)] = TV.v false [i6 ((stepN (stepsN k x0) : Nat) : Int)] := by
              rw [stepN, if_neg (by omega)]
            exact w_autoX [] (by (conv => whnf); exact And.intro (by kernel_rfl) (And.intro (by kernel_rfl) (by repeat' (first | (with_reducible exact rfl) | ((conv => whnf); first | exact trivial | exact e | exact rfl | exact tvi (by first | omega | (dsimp only; omega) | (simp; done)) | exact tvr (by first | omega | (dsimp only; omega) | (simp; done) | (simp; omega)) | exact ⟨rfl, clo_i, by first | rfl | rw [List.take_length] | assumption⟩ | refine And.intro ?_ ?_)))))
        · have hk8 : k = 8 := by omega
          repeat' ((conv => whnf); (first | refine k0 ?_ | refine jA fun _ => ?_ | refine jB fun _ => ?_ | refine kC (fun _ => ?_) fun _ => ?_ | refine jst ?_ | exact ⟨rfl, rfl⟩ | exact jV | fail))
          refine ⟨⟨i + 1, by omega⟩, by simp only; omega, ?_⟩
          have e : TV.v false [i6 ((stepsN k x0 : Nat) : Int)] = TV.v false [i6 ((crcX (bs.take (i + 1)) : Nat) : Int)] := by
            rw [crcX_take bs hi2, roundN, hx0, hk8]
          exact w_autoX [] (by (conv => whnf); exact And.intro (by kernel_rfl) (And.intro (by kernel_rfl) (by repeat' (first | (with_reducible exact rfl) | ((conv => whnf); first | exact trivial | exact e | exact rfl | exact tvi (by first | omega | (dsimp only; omega) | (simp; done)) | exact tvr (by first | omega | (dsimp only; omega) | (simp; done) | (simp; omega)) | exact ⟨rfl, clo_i, by first | rfl | rw [List.take_length] | assumption⟩ | refine And.intro ?_ ?_)))))
    · obtain rfl : i = bs.length := by omega
      repeat' ((conv => whnf); (first | refine Exists.intro _ (And.intro (xor64 (b := 4294967295) hx (by omega)) ?_) | refine k0 ?_ | refine jA fun _ => ?_ | refine jB fun _ => ?_ | refine kC (fun _ => ?_) fun _ => ?_ | refine jst ?_ | exact ⟨rfl, rfl⟩ | exact jV | fail))
      exact ⟨by rw [List.take_length]; rfl, rfl⟩

theorem cx168 {P : Program} {X : FuncId → List Arg → List (Bool × List Cell) → List (Option (List Cell)) → Prop} {a : List Arg} {Q : List (Bool × List Cell) → List (Option (List Cell)) → Prop} (h : ∃ b vals outs, a = b ∧ D P X (.call 168 b vals outs) ∧ Q vals outs) : CallS P X 168 a Q := ⟨h⟩

abbrev c32 (n : Nat) : Cell := .prim (.int .u32 (n : Int))

set_option maxRecDepth 100000 in
theorem tx178 {bs : List UInt8} (hb : bs.length ≤ 1000000000000 := by first | assumption | omega | (simp; done) | (simp; omega)) : T 178 [aE bs] [vI (crcN bs)] [none] := by
  refine w_call md [] Tryz.func178 rfl ?_
  repeat' ((conv => whnf); (first | refine k0 ?_ | refine jA fun _ => ?_ | refine jB fun _ => ?_ | refine kC (fun _ => ?_) fun _ => ?_ | refine jst ?_ | exact ⟨rfl, rfl⟩ | exact jV | fail))
  conv => whnf
  refine loopk (ι := Nat) (fun i => i ≤ bs.length) (fun i => bs.length - i) (0) [7, 8] (fun i => [(3, .v false [c32 (crcX (bs.take i))]), (9, .v false [i6 i])]) [none] ?_
  refine ⟨by omega, ?_, fun i hi => ?_⟩
  · exact jw []
  · have hx := crcX_lt (bs.take i)
    refine ⟨fun hlt => ?_, fun hge => ?_⟩
    · have hi2 : i < bs.length := by omega
      have hy := u8_lt bs[i]
      have hz := xor_lt32 hx (show bs[i].toNat < 4294967296 by omega)
      repeat' ((conv => whnf); (first | refine Exists.intro _ (And.intro (u32_in (n := bs[i].toNat) (by omega)) ?_) | refine Exists.intro _ (And.intro (xor32 hx (by omega)) ?_) | refine k0 ?_ | refine jA fun _ => ?_ | refine jB fun _ => ?_ | refine kC (fun _ => ?_) fun _ => ?_ | refine jst ?_ | exact ⟨rfl, rfl⟩ | exact jV | fail))
      generalize hx0 : crcX (bs.take i) ^^^ bs[i].toNat = x0 at hz
      conv => whnf
      refine loopk (ι := Nat) (fun i => i ≤ 8) (fun i => 8 - i) (0) [7, 8, 9] (fun i => [(3, .v false [c32 (stepsN i x0)]), (17, .v false [i6 i])]) [none] ?_
      refine ⟨by omega, ?_, fun k hk => ?_⟩
      · exact jw []
      · have hs := stepsN_lt hz k
        refine ⟨fun hlt2 => ?_, fun hge2 => ?_⟩
        · repeat' ((conv => whnf); (first | refine Exists.intro _ (And.intro (and32_1 (a := stepsN k x0) (by omega)) ?_) | refine And.intro (by decide) (Exists.intro _ (And.intro (shr1 (stepsN k x0)) ?_)) | refine Exists.intro _ (And.intro (xor32 (b := 2197175160) (by omega) (by omega)) ?_) | refine k0 ?_ | refine jA fun _ => ?_ | refine jB fun _ => ?_ | refine kC (fun _ => ?_) fun _ => ?_ | refine jst ?_ | exact ⟨rfl, rfl⟩ | exact jV | fail))
          · refine ⟨⟨k + 1, by omega⟩, by simp only; omega, ?_⟩
            have e : TV.v false [c32 (stepsN k x0 / 2 ^^^ 2197175160)] = TV.v false [c32 (stepN (stepsN k x0))] := by
              rw [stepN, if_pos (by omega)]
            exact w_autoX [] (by (conv => whnf); exact And.intro (by kernel_rfl) (And.intro (by kernel_rfl) (by repeat' (first | (with_reducible exact rfl) | ((conv => whnf); first | exact trivial | exact e | exact rfl | exact tvi (by first | omega | (dsimp only; omega) | (simp; done)) | exact tvr (by first | omega | (dsimp only; omega) | (simp; done) | (simp; omega)) | exact ⟨rfl, clo_i, by first | rfl | rw [List.take_length] | assumption⟩ | refine And.intro ?_ ?_)))))
          · refine ⟨⟨k + 1, by omega⟩, by simp only; omega, ?_⟩
            have e : TV.v false [c32 (stepsN k x0 / 2)] = TV.v false [c32 (stepN (stepsN k x0))] := by
              rw [stepN, if_neg (by omega)]
            exact w_autoX [] (by (conv => whnf); exact And.intro (by kernel_rfl) (And.intro (by kernel_rfl) (by repeat' (first | (with_reducible exact rfl) | ((conv => whnf); first | exact trivial | exact e | exact rfl | exact tvi (by first | omega | (dsimp only; omega) | (simp; done)) | exact tvr (by first | omega | (dsimp only; omega) | (simp; done) | (simp; omega)) | exact ⟨rfl, clo_i, by first | rfl | rw [List.take_length] | assumption⟩ | refine And.intro ?_ ?_)))))
        · have hk8 : k = 8 := by omega
          repeat' ((conv => whnf); (first | refine k0 ?_ | refine jA fun _ => ?_ | refine jB fun _ => ?_ | refine kC (fun _ => ?_) fun _ => ?_ | refine jst ?_ | exact ⟨rfl, rfl⟩ | exact jV | fail))
          refine ⟨⟨i + 1, by omega⟩, by simp only; omega, ?_⟩
          have e : TV.v false [c32 (stepsN k x0)] = TV.v false [c32 (crcX (bs.take (i + 1)))] := by
            rw [crcX_take bs hi2, roundN, hx0, hk8]
          exact w_autoX [] (by (conv => whnf); exact And.intro (by kernel_rfl) (And.intro (by kernel_rfl) (by repeat' (first | (with_reducible exact rfl) | ((conv => whnf); first | exact trivial | exact e | exact rfl | exact tvi (by first | omega | (dsimp only; omega) | (simp; done)) | exact tvr (by first | omega | (dsimp only; omega) | (simp; done) | (simp; omega)) | exact ⟨rfl, clo_i, by first | rfl | rw [List.take_length] | assumption⟩ | refine And.intro ?_ ?_)))))
    · obtain rfl : i = bs.length := by omega
      have hy := xor_lt32 (show 4294967295 < 4294967296 by omega) hx
      repeat' ((conv => whnf); (first | refine Exists.intro _ (And.intro (xor32 (a := 4294967295) (by omega) hx) ?_) | refine Exists.intro _ (And.intro (i64_of (by omega)) ?_) | refine k0 ?_ | refine jA fun _ => ?_ | refine jB fun _ => ?_ | refine kC (fun _ => ?_) fun _ => ?_ | refine jst ?_ | exact ⟨rfl, rfl⟩ | exact jV | fail))
      exact ⟨by rw [List.take_length, Nat.xor_comm]; rfl, rfl⟩

theorem cx178 {P : Program} {X : FuncId → List Arg → List (Bool × List Cell) → List (Option (List Cell)) → Prop} {a : List Arg} {Q : List (Bool × List Cell) → List (Option (List Cell)) → Prop} (h : ∃ b vals outs, a = b ∧ D P X (.call 178 b vals outs) ∧ Q vals outs) : CallS P X 178 a Q := ⟨h⟩

theorem be4_cells (n : Nat) : cs true (be4 n) = [.prim (.int .u8 ((UInt8.ofNat (n / 16777216)).toNat : Int)), .prim (.int .u8 ((UInt8.ofNat (n / 65536)).toNat : Int)), .prim (.int .u8 ((UInt8.ofNat (n / 256)).toNat : Int)), .prim (.int .u8 ((UInt8.ofNat n).toNat : Int))] := rfl

set_option maxRecDepth 100000 in
theorem tx158 {bs : List UInt8} (hb : bs.length ≤ 10000000 := by first | assumption | omega | (simp; done) | (simp; omega)) : T 158 [aO bs] [vE (ptS bs)] [none] := by
  refine w_call md [] Tryz.func158 rfl ?_
  have hx := crcN_lt bs
  repeat' ((conv => whnf); (first | refine And.intro (by decide) (Exists.intro _ (And.intro (shrN (crcN bs) 24) ?_)) | refine And.intro (by decide) (Exists.intro _ (And.intro (shrN (crcN bs) 16) ?_)) | refine And.intro (by decide) (Exists.intro _ (And.intro (shrN (crcN bs) 8) ?_)) | refine Exists.intro _ (And.intro (u8n _) ?_) | refine Exists.intro _ (Exists.intro (cs true (be4 (crcN bs))) (And.intro rfl (And.intro ⟨by simp, bgb (by omega), bg (by omega)⟩ (apE (ys := be4 (crcN bs)) ?_)))) | refine k0 ?_ | refine jA fun _ => ?_ | refine jB fun _ => ?_ | refine kC (fun _ => ?_) fun _ => ?_ | (apply cx178; refine kl tx178 ?_) | refine jst ?_ | exact ⟨rfl, rfl⟩ | exact jV | fail))

theorem cx158 {P : Program} {X : FuncId → List Arg → List (Bool × List Cell) → List (Option (List Cell)) → Prop} {a : List Arg} {Q : List (Bool × List Cell) → List (Option (List Cell)) → Prop} (h : ∃ b vals outs, a = b ∧ D P X (.call 158 b vals outs) ∧ Q vals outs) : CallS P X 158 a Q := ⟨h⟩

set_option maxRecDepth 100000 in
theorem tx149 {bs : List UInt8} (hb : bs.length ≤ 10000000 := by first | assumption | omega | (simp; done) | (simp; omega)) : T 149 [aE bs] [vE (ptS bs)] [none] := by
  refine w_call md [] Tryz.func149 rfl ?_
  have hx := crcN_lt bs
  repeat' ((conv => whnf); (first | refine And.intro (by decide) (Exists.intro _ (And.intro (shrN (crcN bs) 24) ?_)) | refine And.intro (by decide) (Exists.intro _ (And.intro (shrN (crcN bs) 16) ?_)) | refine And.intro (by decide) (Exists.intro _ (And.intro (shrN (crcN bs) 8) ?_)) | refine Exists.intro _ (And.intro (u8n _) ?_) | refine Exists.intro _ (Exists.intro (cs true (_ : List UInt8)) (And.intro rfl (And.intro ⟨Nat.le_refl _, bgb (by omega), bg (by omega)⟩ (Exists.intro _ (And.intro ape (Exists.intro _ (And.intro (Nat.zero_add _) ?_))))))) | refine Exists.intro _ (Exists.intro (cs true (be4 (crcN bs))) (And.intro rfl (And.intro ⟨by simp, bgb (by omega), bg (by omega)⟩ (apE (ys := be4 (crcN bs)) ?_)))) | refine k0 ?_ | refine jA fun _ => ?_ | refine jB fun _ => ?_ | refine kC (fun _ => ?_) fun _ => ?_ | (apply cx168; refine kl tx168 ?_) | refine jst ?_ | exact ⟨rfl, rfl⟩ | exact jV | fail))

theorem cx149 {P : Program} {X : FuncId → List Arg → List (Bool × List Cell) → List (Option (List Cell)) → Prop} {a : List Arg} {Q : List (Bool × List Cell) → List (Option (List Cell)) → Prop} (h : ∃ b vals outs, a = b ∧ D P X (.call 149 b vals outs) ∧ Q vals outs) : CallS P X 149 a Q := ⟨h⟩

set_option maxRecDepth 100000 in
theorem tx148 {bs : List UInt8} {s : ByteArray} (hb : bs.length ≤ 10000000 := by first | assumption | omega | (simp; done) | (simp; omega)) (hs : s.size ≤ 10000000 := by first | assumption | omega | (simp; done) | (simp; omega)) : T 148 [aE bs, aS s] [vE (ptT bs (bl s))] [none, none] := by
  refine w_call md [] Tryz.func148 rfl ?_
  have hlen := uenc_len (clN_le s.size)
  have hsz := bl_len s
  repeat' ((conv => whnf); (first | refine jap (apE ?_) src_str | refine k0 ?_ | refine jA fun _ => ?_ | refine jB fun _ => ?_ | refine kC (fun _ => ?_) fun _ => ?_ | (apply cx146; refine kl tx146 ?_) | refine jst ?_ | exact ⟨rfl, rfl⟩ | exact jV | fail))

theorem cx148 {P : Program} {X : FuncId → List Arg → List (Bool × List Cell) → List (Option (List Cell)) → Prop} {a : List Arg} {Q : List (Bool × List Cell) → List (Option (List Cell)) → Prop} (h : ∃ b vals outs, a = b ∧ D P X (.call 148 b vals outs) ∧ Q vals outs) : CallS P X 148 a Q := ⟨h⟩

theorem bl_sb2 {b : List UInt8} : bl (sb b) = b := bl_sb b

end Go.Proofs.YtopnaijeicknoaaGreatDoor
