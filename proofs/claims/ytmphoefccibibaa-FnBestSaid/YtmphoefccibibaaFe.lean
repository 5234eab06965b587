/- Functions of the program, each with what it gives back. -/
import Derived.Test.YtmphoefccibibaaKe
import Derived.Test.YtmphoefccibibaaChecked
import Derived.IntWalk
import Derived.Test.YtmphoefccibibaaFc
import Derived.Test.YtmphoefccibibaaFd
namespace Go.Proofs.Ytmphoefccibibaa
open Go Go.RowKit Go.IntWalk
open Enc (sz cs)
attribute [local irreducible] IntKind.wrap

theorem rd4_snoc (l : List UInt8) (x : UInt8) : rd4 (l ++ [x]) = rd4 l * 256 + x.toNat := by simp [rd4, List.foldl_append]
theorem rd4_lt : ∀ {l : List UInt8}, l.length ≤ 3 → rd4 l < 16777216
  | [], _ => by simp [rd4]
  | [a], _ => by have := u8_lt a; simp [rd4]; omega
  | [a, b], _ => by have := u8_lt a; have := u8_lt b; simp [rd4]; omega
  | [a, b, c], _ => by have := u8_lt a; have := u8_lt b; have := u8_lt c; simp [rd4]; omega
  | _ :: _ :: _ :: _ :: _, h => by simp at h
theorem shl8 {x : Nat} (hx : x < 16777216) : IntKind.i64.wrap ((x : Int) * 2 ^ (min ((8 : Int)).toNat IntKind.i64.bits)) = ((x * 256 : Nat) : Int) := by
  show IntKind.i64.wrap ((x : Int) * 256) = _
  rw [i64_in _ (by omega)]; omega
theorem or8 {n y : Nat} (hn : n < 16777216) (hy : y < 256) : IntKind.i64.wrap ((BitVec.ofInt IntKind.i64.bits ((n * 256 : Nat) : Int) ||| BitVec.ofInt IntKind.i64.bits (y : Int)).toNat : Int) = ((n * 256 + y : Nat) : Int) := by
  have e : (BitVec.ofInt IntKind.i64.bits ((n * 256 : Nat) : Int) ||| BitVec.ofInt IntKind.i64.bits (y : Int)).toNat = n * 256 + y := by
    show (BitVec.ofInt 64 ((n * 256 : Nat) : Int) ||| BitVec.ofInt 64 (y : Int)).toNat = n * 256 + y
    rw [ofInt_nat, ofInt_nat, BitVec.toNat_or, BitVec.toNat_ofNat, BitVec.toNat_ofNat, Nat.mod_eq_of_lt (by omega), Nat.mod_eq_of_lt (by omega)]
    have := Nat.two_pow_add_eq_or_of_lt (i := 8) (b := y) (by omega) n
    rw [Nat.mul_comm n, ← this]
  rw [e]; exact i64_of (by omega)

set_option maxRecDepth 100000 in
theorem tx36 {b : List UInt8} (hb : b.length ≤ 10000000 := by first | assumption | omega | (simp; done) | (simp; omega)) : T 36 [aE b] [vE (gS b).1, vB (gS b).2] [none] := by
  refine w_call md [[1]] Try.func36 rfl ?_
  have hl : (b.take (b.length - 4)).length ≤ 10000000 := by simp; omega
  repeat' ((conv => whnf); (first | refine Exists.intro _ (And.intro (show IntKind.i64.wrap ((b.length : Int) - 4) = ((b.length - 4 : Nat) : Int) from (i64_in _ (by omega)).trans (by omega)) ?_) | refine Exists.intro _ (Exists.intro _ (Exists.intro _ (And.intro rfl (And.intro bndN (And.intro (sl_to (by omega)) ?_))))) | refine Exists.intro _ (Exists.intro _ (Exists.intro _ (And.intro (srcO (α := UInt8) rfl rfl) (And.intro strOf_cs ?_)))) | refine Exists.intro _ (Exists.intro _ (Exists.intro _ (And.intro rfl (And.intro strOf_ro ?_)))) | refine k0 ?_ | refine jA fun _ => ?_ | refine jB fun _ => ?_ | refine kC (fun _ => ?_) fun _ => ?_ | refine jS ?_ | refine jI ?_ | (apply cx20; refine kl tx20 ?_) | (apply cx53; refine kl tx53 ?_) | refine jD ?_ | refine ⟨snc, _, snr, ?_⟩ | refine ⟨⟨Nat.le_refl _, rfl⟩, [], rfl, ?_⟩ | refine And.intro ⟨rfl, rfl, by decide, rfl⟩ ?_ | refine jP ?_ | refine jO ?_ | refine jX ?_ | refine jb jr ?_ | refine jb ofs ?_ | refine ko jc ?_ | refine ko jp ?_ | refine jM ?_ | refine kr ?_ | refine ko rfl ?_ | refine And.intro (cs_shal _) ?_ | refine And.intro (rfl : List.all _ _ = true) ?_ | refine And.intro ⟨rfl, (rfl : List.all _ _ = true)⟩ ?_ | exact ⟨rfl, rfl⟩ | exact jV | fail))
  · exact ⟨by rw [gS_no (by omega)]; rfl, rfl⟩
  · rename_i h
    exact ⟨by rw [gS_no (fun q => h (by rw [q.2]))]; rfl, rfl⟩
  · rename_i h
    exact ⟨by rw [gS_yes (by omega) (bl_eq (Classical.not_not.1 h))], rfl⟩

theorem cx36 {P : Program} {X : FuncId → List Arg → List (Bool × List Cell) → List (Option (List Cell)) → Prop} {a : List Arg} {Q : List (Bool × List Cell) → List (Option (List Cell)) → Prop} (h : ∃ b vals outs, a = b ∧ D P X (.call 36 b vals outs) ∧ Q vals outs) : CallS P X 36 a Q := ⟨h⟩

set_option maxHeartbeats 2000000 in
set_option maxRecDepth 100000 in
theorem tx58 {b : List UInt8} (hb : b.length ≤ 10000000 := by first | assumption | omega | (simp; done) | (simp; omega)) : T 58 [aE b] [vE (gS b).1, vB (gS b).2] [none] := by
  refine w_call md [[1]] Try.func58 rfl ?_
  repeat' ((conv => whnf); (first | refine Exists.intro _ (And.intro (show IntKind.i64.wrap ((b.length : Int) - 4) = ((b.length : Int) - 4) from i64_in _ (by omega)) ?_) | refine k0 ?_ | refine jA fun _ => ?_ | refine jB fun _ => ?_ | refine kC (fun _ => ?_) fun _ => ?_ | refine jS ?_ | refine jI ?_ | (apply cx62; refine kl tx62 ?_) | refine jD ?_ | refine ⟨snc, _, snr, ?_⟩ | refine ⟨⟨Nat.le_refl _, rfl⟩, [], rfl, ?_⟩ | refine And.intro ⟨rfl, rfl, by decide, rfl⟩ ?_ | refine jP ?_ | refine jO ?_ | refine jX ?_ | refine jb jr ?_ | refine jb ofs ?_ | refine ko jc ?_ | refine ko jp ?_ | refine jM ?_ | refine kr ?_ | refine ko rfl ?_ | refine And.intro (cs_shal _) ?_ | refine And.intro (rfl : List.all _ _ = true) ?_ | refine And.intro ⟨rfl, (rfl : List.all _ _ = true)⟩ ?_ | exact ⟨rfl, rfl⟩ | exact jV | fail))
  · exact ⟨by rw [gS_no (by omega)]; rfl, rfl⟩
  · have hl4 : (b.length : Int) - 4 = ((b.length - 4 : Nat) : Int) := by omega
    have hl : (b.take (b.length - 4)).length ≤ 10000000 := by simp; omega
    conv => whnf
    refine loopk (ι := Nat) (fun i => i ≤ 4) (fun i => 4 - i) (0) [0] (fun i => [(4, .v false [i6 (b.length - 4 : Nat)]), (5, .v false [i6 (rd4 ((b.drop (b.length - 4)).take i))]), (6, .v false [i6 (b.length - 4 + i : Nat)])]) [none] ?_
    refine ⟨by omega, ?_, fun i hi => ?_⟩
    · exact w_autoX [] (by (conv => whnf); exact And.intro (by kernel_rfl) (And.intro (by kernel_rfl) (by repeat' (first | (with_reducible exact rfl) | ((conv => whnf); first | exact trivial | exact tvi hl4 | exact rfl | exact tvi (by first | omega | (dsimp only; omega) | (simp; done)) | exact tvr (by first | omega | (dsimp only; omega) | (simp; done) | (simp; omega)) | exact ⟨rfl, clo_i, by first | rfl | rw [List.take_length] | assumption⟩ | refine And.intro ?_ ?_)))))
    · refine ⟨fun hlt => ?_, fun hge => ?_⟩
      · have hi2 : i < (b.drop (b.length - 4)).length := by simp; omega
        have hx := u8_lt b[b.length - 4 + i]
        have hr := rd4_lt (l := (b.drop (b.length - 4)).take i) (by simp; omega)
        have hn : rd4 ((b.drop (b.length - 4)).take (i + 1)) = rd4 ((b.drop (b.length - 4)).take i) * 256 + b[b.length - 4 + i].toNat := by
          rw [take_one hi2, rd4_snoc]; simp
        repeat' ((conv => whnf); (first | refine And.intro (by decide) (Exists.intro _ (And.intro (shl8 (by omega)) ?_)) | refine Exists.intro _ (And.intro (i64_of (n := b[b.length - 4 + i].toNat) (by omega)) ?_) | refine Exists.intro _ (And.intro (or8 (by omega) hx) ?_) | refine k0 ?_ | refine jA fun _ => ?_ | refine jB fun _ => ?_ | refine kC (fun _ => ?_) fun _ => ?_ | refine jS ?_ | refine jI ?_ | (apply cx62; refine kl tx62 ?_) | refine jD ?_ | refine ⟨snc, _, snr, ?_⟩ | refine ⟨⟨Nat.le_refl _, rfl⟩, [], rfl, ?_⟩ | refine And.intro ⟨rfl, rfl, by decide, rfl⟩ ?_ | refine jP ?_ | refine jO ?_ | refine jX ?_ | refine jb jr ?_ | refine jb ofs ?_ | refine ko jc ?_ | refine ko jp ?_ | refine jM ?_ | refine kr ?_ | refine ko rfl ?_ | refine And.intro (cs_shal _) ?_ | refine And.intro (rfl : List.all _ _ = true) ?_ | refine And.intro ⟨rfl, (rfl : List.all _ _ = true)⟩ ?_ | exact ⟨rfl, rfl⟩ | exact jV | fail))
        refine ⟨⟨i + 1, by omega⟩, by simp only; omega, ?_⟩
        dsimp only
        exact w_autoX [] (by (conv => whnf); exact And.intro (by kernel_rfl) (And.intro (by kernel_rfl) (by repeat' (first | (with_reducible exact rfl) | ((conv => whnf); first | exact trivial | exact tvi (by rw [hn]) | exact rfl | exact tvi (by first | omega | (dsimp only; omega) | (simp; done)) | exact tvr (by first | omega | (dsimp only; omega) | (simp; done) | (simp; omega)) | exact ⟨rfl, clo_i, by first | rfl | rw [List.take_length] | assumption⟩ | refine And.intro ?_ ?_)))))
      · obtain rfl : i = 4 := by omega
        have e4 : (b.drop (b.length - 4)).take 4 = b.drop (b.length - 4) := List.take_of_length_le (by simp; omega)
        have hiff := gS_iff (b := b) (by omega)
        repeat' ((conv => whnf); (first | refine Exists.intro _ (Exists.intro _ (Exists.intro _ (And.intro rfl (And.intro bndN (And.intro (sl_to (by omega)) ?_))))) | refine Exists.intro _ (Exists.intro (cs true (_ : List UInt8)) (And.intro rfl (And.intro ⟨Nat.le_refl _, bgb (by omega), bg (by omega)⟩ (Exists.intro _ (And.intro ape (Exists.intro _ (And.intro (Nat.zero_add _) ?_))))))) | refine k0 ?_ | refine jA fun _ => ?_ | refine jB fun _ => ?_ | refine kC (fun _ => ?_) fun _ => ?_ | refine jS ?_ | refine jI ?_ | (apply cx62; refine kl tx62 ?_) | refine jD ?_ | refine ⟨snc, _, snr, ?_⟩ | refine ⟨⟨Nat.le_refl _, rfl⟩, [], rfl, ?_⟩ | refine And.intro ⟨rfl, rfl, by decide, rfl⟩ ?_ | refine jP ?_ | refine jO ?_ | refine jX ?_ | refine jb jr ?_ | refine jb ofs ?_ | refine ko jc ?_ | refine ko jp ?_ | refine jM ?_ | refine kr ?_ | refine ko rfl ?_ | refine And.intro (cs_shal _) ?_ | refine And.intro (rfl : List.all _ _ = true) ?_ | refine And.intro ⟨rfl, (rfl : List.all _ _ = true)⟩ ?_ | exact ⟨rfl, rfl⟩ | exact jV | fail))
        · rename_i h
          exact ⟨by rw [gS_no (fun q => h (by rw [e4, hiff.1 q.2]))]; rfl, rfl⟩
        · rename_i h
          have h' : ((rd4 ((b.drop (b.length - 4)).take 4) : Nat) : Int) = crcN (b.take (b.length - 4)) := Classical.not_not.1 h
          rw [e4] at h'
          exact ⟨by rw [gS_yes (by omega) (hiff.2 (by omega))]; rfl, rfl⟩

theorem cx58 {P : Program} {X : FuncId → List Arg → List (Bool × List Cell) → List (Option (List Cell)) → Prop} {a : List Arg} {Q : List (Bool × List Cell) → List (Option (List Cell)) → Prop} (h : ∃ b vals outs, a = b ∧ D P X (.call 58 b vals outs) ∧ Q vals outs) : CallS P X 58 a Q := ⟨h⟩

end Go.Proofs.Ytmphoefccibibaa
