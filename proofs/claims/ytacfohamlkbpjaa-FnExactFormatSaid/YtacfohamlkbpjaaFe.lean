/- Functions of the program, each with what it gives back. -/
import Derived.Test.YtacfohamlkbpjaaKe
import Derived.Test.YtacfohamlkbpjaaChecked
import Derived.IntWalk
import Derived.Test.YtacfohamlkbpjaaFc
import Derived.Test.YtacfohamlkbpjaaFd
namespace Go.Proofs.Ytacfohamlkbpjaa
open Go Go.RowKit Go.IntWalk
open Enc (sz cs)
attribute [local irreducible] IntKind.wrap

theorem rd4_snoc (l : List UInt8) (x : UInt8) : rd4 (l ++ [x]) = rd4 l * 256 + x.toNat := by simp [rd4, List.foldl_append]
theorem rd4_lt : ∀ {l : List UInt8}, l.length ≤ 3 → rd4 l < 16777216
  | [], _ => by simp [rd4]
  | [a], _ => by have := u8_lt a; simp [rd4]; omega
  | [a, b], _ => by have := u8_lt a; have := u8_lt b; simp [rd4]; omega
  | [a, b, c], _ => by have := u8_lt a; have := u8_lt b; have := u8_lt c; simp [rd4]; omega
  | _ :: _ :: _ :: _ :: _, h => by simp at h
theorem shl8 {x : Nat} (hx : x < 16777216) : IntKind.i64.wrap ((x : Int) * 2 ^ (min ((8 : Int)).toNat IntKind.i64.bits)) = ((x * 256 : Nat) : Int) := by
  show IntKind.i64.wrap ((x : Int) * 256) = _
  rw [i64_in _ (by omega)]; omega
theorem or8 {n y : Nat} (hn : n < 16777216) (hy : y < 256) : IntKind.i64.wrap ((BitVec.ofInt IntKind.i64.bits ((n * 256 : Nat) : Int) ||| BitVec.ofInt IntKind.i64.bits (y : Int)).toNat : Int) = ((n * 256 + y : Nat) : Int) := by
  have e : (BitVec.ofInt IntKind.i64.bits ((n * 256 : Nat) : Int) ||| BitVec.ofInt IntKind.i64.bits (y : Int)).toNat = n * 256 + y := by
    show (BitVec.ofInt 64 ((n * 256 : Nat) : Int) ||| BitVec.ofInt 64 (y : Int)).toNat = n * 256 + y
    rw [ofInt_nat, ofInt_nat, BitVec.toNat_or, BitVec.toNat_ofNat, BitVec.toNat_ofNat, Nat.mod_eq_of_lt (by omega), Nat.mod_eq_of_lt (by omega)]
    have := Nat.two_pow_add_eq_or_of_lt (i := 8) (b := y) (by omega) n
    rw [Nat.mul_comm n, ← this]
  rw [e]; exact i64_of (by omega)

set_option maxRecDepth 100000 in
theorem t_impl_GetSum {b : List UInt8} (hb : b.length ≤ 10000000 := by first | assumption | omega | (simp; done) | (simp; omega)) : T 136 [aE b] [vE (gS b).1, vB (gS b).2] [none] := by
  refine w_call md [[1]] Try.func136 rfl ?_
  have hl : (b.take (b.length - 4)).length ≤ 10000000 := by simp; omega
  repeat' ((conv => whnf); (first | refine Exists.intro _ (And.intro (show IntKind.i64.wrap ((b.length : Int) - 4) = ((b.length - 4 : Nat) : Int) from (i64_in _ (by omega)).trans (by omega)) ?_) | refine Exists.intro _ (Exists.intro _ (Exists.intro _ (And.intro rfl (And.intro bndN (And.intro (sl_to (by omega)) ?_))))) | refine Exists.intro _ (Exists.intro _ (Exists.intro _ (And.intro (srcO (α := UInt8) rfl rfl) (And.intro strOf_cs ?_)))) | refine Exists.intro _ (Exists.intro _ (Exists.intro _ (And.intro rfl (And.intro strOf_ro ?_)))) | refine Exists.intro _ (And.intro WGh.refl ?_) | refine And.intro (fun _ => ?_) (fun h => (by first | exact tf h | exact ft h | exact bct h (by assumption) | exact bct (by assumption) h | exact h (by with_reducible rfl) | omega : False).elim) | refine And.intro (fun h => (by first | exact tf h | exact ft h | exact bct h (by assumption) | exact bct (by assumption) h | exact h (by with_reducible rfl) | omega : False).elim) (fun _ => ?_) | refine And.intro (fun _ => ?_) (fun _ => ?_) | refine Exists.intro _ (And.intro (i64_suc (by omega)) ?_) | refine Exists.intro _ (And.intro (i64_in _ (by omega)) ?_) | (apply cg_impl_copyBytes; refine Exists.intro _ (Exists.intro _ (Exists.intro _ (And.intro rfl (And.intro (t_impl_copyBytes) ?_))))) | (apply cg_impl_PutSum; refine Exists.intro _ (Exists.intro _ (Exists.intro _ (And.intro rfl (And.intro (t_impl_PutSum) ?_))))) | refine And.intro (Drw.mk (by kernel_rfl) (by kernel_rfl) (by kernel_rfl)) ?_ | refine And.intro snc (Exists.intro _ (And.intro snr ?_)) | refine And.intro ⟨Nat.le_refl _, rfl⟩ (Exists.intro [] (And.intro rfl ?_)) | refine And.intro ⟨rfl, rfl, by decide, rfl⟩ ?_ | refine And.intro (PureS.mk (by first | rfl | (simp; done))) ?_ | refine And.intro owc ?_ | refine And.intro (exc (by decide)) ?_ | refine And.intro ⟨by omega, by omega⟩ (Exists.intro _ (And.intro (rd (by omega)) ?_)) | refine And.intro ⟨by omega, by omega⟩ (Exists.intro _ (And.intro ofs ?_)) | refine Exists.intro _ (And.intro (ct0 (by omega)) ?_) | refine Exists.intro _ (And.intro (pt0 (by omega) _ rfl) ?_) | refine And.intro ⟨rfl, by omega, by omega, mks (by omega)⟩ (Exists.intro _ (Exists.intro _ (Exists.intro _ (And.intro (Int.toNat_natCast _) (And.intro rfl (And.intro rfl ?_)))))) | refine Exists.intro _ (And.intro rfl ?_) | refine And.intro (cs_shal _) ?_ | exact ⟨rfl, rfl⟩ | exact ⟨vIe (by omega), rfl⟩ | fail))
  · exact ⟨by rw [gS_no (by omega)]; rfl, rfl⟩
  · rename_i h
    exact ⟨by rw [gS_no (fun q => h (by rw [q.2]))]; rfl, rfl⟩
  · rename_i h
    exact ⟨by rw [gS_yes (by omega) (bl_eq (Classical.not_not.1 h))], rfl⟩

theorem cg_impl_GetSum {P : Program} {X : FuncId → List Arg → List (Bool × List Cell) → List (Option (List Cell)) → Prop} {a : List Arg} {Q : List (Bool × List Cell) → List (Option (List Cell)) → Prop} (h : ∃ b vals outs, a = b ∧ D P X (.call 136 b vals outs) ∧ Q vals outs) : CallS P X 136 a Q := ⟨h⟩

set_option maxHeartbeats 2000000 in
set_option maxRecDepth 100000 in
theorem t_spec_GetSum {b : List UInt8} (hb : b.length ≤ 10000000 := by first | assumption | omega | (simp; done) | (simp; omega)) : T 134 [aE b] [vE (gS b).1, vB (gS b).2] [none] := by
  refine w_call md [[1]] Try.func134 rfl ?_
  repeat' ((conv => whnf); (first | refine Exists.intro _ (And.intro (show IntKind.i64.wrap ((b.length : Int) - 4) = ((b.length : Int) - 4) from i64_in _ (by omega)) ?_) | refine Exists.intro _ (And.intro WGh.refl ?_) | refine And.intro (fun _ => ?_) (fun h => (by first | exact tf h | exact ft h | exact bct h (by assumption) | exact bct (by assumption) h | exact h (by with_reducible rfl) | omega : False).elim) | refine And.intro (fun h => (by first | exact tf h | exact ft h | exact bct h (by assumption) | exact bct (by assumption) h | exact h (by with_reducible rfl) | omega : False).elim) (fun _ => ?_) | refine And.intro (fun _ => ?_) (fun _ => ?_) | refine Exists.intro _ (And.intro (i64_suc (by omega)) ?_) | refine Exists.intro _ (And.intro (i64_in _ (by omega)) ?_) | (apply cg_spec_Crc; refine Exists.intro _ (Exists.intro _ (Exists.intro _ (And.intro rfl (And.intro (t_spec_Crc) ?_))))) | refine And.intro (Drw.mk (by kernel_rfl) (by kernel_rfl) (by kernel_rfl)) ?_ | refine And.intro snc (Exists.intro _ (And.intro snr ?_)) | refine And.intro ⟨Nat.le_refl _, rfl⟩ (Exists.intro [] (And.intro rfl ?_)) | refine And.intro ⟨rfl, rfl, by decide, rfl⟩ ?_ | refine And.intro (PureS.mk (by first | rfl | (simp; done))) ?_ | refine And.intro owc ?_ | refine And.intro (exc (by decide)) ?_ | refine And.intro ⟨by omega, by omega⟩ (Exists.intro _ (And.intro (rd (by omega)) ?_)) | refine And.intro ⟨by omega, by omega⟩ (Exists.intro _ (And.intro ofs ?_)) | refine Exists.intro _ (And.intro (ct0 (by omega)) ?_) | refine Exists.intro _ (And.intro (pt0 (by omega) _ rfl) ?_) | refine And.intro ⟨rfl, by omega, by omega, mks (by omega)⟩ (Exists.intro _ (Exists.intro _ (Exists.intro _ (And.intro (Int.toNat_natCast _) (And.intro rfl (And.intro rfl ?_)))))) | refine Exists.intro _ (And.intro rfl ?_) | refine And.intro (cs_shal _) ?_ | exact ⟨rfl, rfl⟩ | exact ⟨vIe (by omega), rfl⟩ | fail))
  · exact ⟨by rw [gS_no (by omega)]; rfl, rfl⟩
  · have hl4 : (b.length : Int) - 4 = ((b.length - 4 : Nat) : Int) := by omega
    have hl : (b.take (b.length - 4)).length ≤ 10000000 := by simp; omega
    conv => whnf
    refine loopk (ι := Nat) (fun i => i ≤ 4) (fun i => 4 - i) (0) [0] (fun i => [(4, .v false [i6 (b.length - 4 : Nat)]), (5, .v false [i6 (rd4 ((b.drop (b.length - 4)).take i))]), (6, .v false [i6 (b.length - 4 + i : Nat)])]) [none] ?_
    refine ⟨by omega, ?_, fun i hi => ?_⟩
    · exact w_autoX [] (by (conv => whnf); exact And.intro (by kernel_rfl) (And.intro (by kernel_rfl) (by repeat' (first | (with_reducible exact rfl) | ((conv => whnf); first | exact trivial | exact tvi hl4 | exact rfl | exact tvi (by first | omega | (dsimp only; omega)) | exact tvr (by first | omega | (dsimp only; omega) | (simp; done) | (simp; omega)) | exact ⟨rfl, (by first | rfl | exact cs_clo _ | exact clo_dsk | exact clo_txn | exact clo_nod | exact clo_fre | exact clo_wri | exact clo_dsk (d := ⟨_, _, _, _, _⟩) | exact clo_txn (t := ⟨⟨_, _, _, _, _⟩, ⟨_, _⟩, _, _⟩) | exact zeros_clo rfl | exact (show closedL (cs _ _) = true from cs_clo _) | (simp only [closedL_append, cs_clo, Bool.true_and, Bool.and_true]; first | rfl | exact zeros_clo rfl)), by first | rfl | rw [List.take_length] | assumption | fail⟩ | refine And.intro ?_ ?_ | fail)))))
    · refine ⟨fun hlt => ?_, fun hge => ?_⟩
      · have hi2 : i < (b.drop (b.length - 4)).length := by simp; omega
        have hx := u8_lt b[b.length - 4 + i]
        have hr := rd4_lt (l := (b.drop (b.length - 4)).take i) (by simp; omega)
        have hn : rd4 ((b.drop (b.length - 4)).take (i + 1)) = rd4 ((b.drop (b.length - 4)).take i) * 256 + b[b.length - 4 + i].toNat := by
          rw [take_one hi2, rd4_snoc]; simp
        repeat' ((conv => whnf); (first | refine And.intro (by decide) (Exists.intro _ (And.intro (shl8 (by omega)) ?_)) | refine Exists.intro _ (And.intro (i64_of (n := b[b.length - 4 + i].toNat) (by omega)) ?_) | refine Exists.intro _ (And.intro (or8 (by omega) hx) ?_) | refine Exists.intro _ (And.intro WGh.refl ?_) | refine And.intro (fun _ => ?_) (fun h => (by first | exact tf h | exact ft h | exact bct h (by assumption) | exact bct (by assumption) h | exact h (by with_reducible rfl) | omega : False).elim) | refine And.intro (fun h => (by first | exact tf h | exact ft h | exact bct h (by assumption) | exact bct (by assumption) h | exact h (by with_reducible rfl) | omega : False).elim) (fun _ => ?_) | refine And.intro (fun _ => ?_) (fun _ => ?_) | refine Exists.intro _ (And.intro (i64_suc (by omega)) ?_) | refine Exists.intro _ (And.intro (i64_in _ (by omega)) ?_) | (apply cg_spec_Crc; refine Exists.intro _ (Exists.intro _ (Exists.intro _ (And.intro rfl (And.intro (t_spec_Crc) ?_))))) | refine And.intro (Drw.mk (by kernel_rfl) (by kernel_rfl) (by kernel_rfl)) ?_ | refine And.intro snc (Exists.intro _ (And.intro snr ?_)) | refine And.intro ⟨Nat.le_refl _, rfl⟩ (Exists.intro [] (And.intro rfl ?_)) | refine And.intro ⟨rfl, rfl, by decide, rfl⟩ ?_ | refine And.intro (PureS.mk (by first | rfl | (simp; done))) ?_ | refine And.intro owc ?_ | refine And.intro (exc (by decide)) ?_ | refine And.intro ⟨by omega, by omega⟩ (Exists.intro _ (And.intro (rd (by omega)) ?_)) | refine And.intro ⟨by omega, by omega⟩ (Exists.intro _ (And.intro ofs ?_)) | refine Exists.intro _ (And.intro (ct0 (by omega)) ?_) | refine Exists.intro _ (And.intro (pt0 (by omega) _ rfl) ?_) | refine And.intro ⟨rfl, by omega, by omega, mks (by omega)⟩ (Exists.intro _ (Exists.intro _ (Exists.intro _ (And.intro (Int.toNat_natCast _) (And.intro rfl (And.intro rfl ?_)))))) | refine Exists.intro _ (And.intro rfl ?_) | refine And.intro (cs_shal _) ?_ | exact ⟨rfl, rfl⟩ | exact ⟨vIe (by omega), rfl⟩ | fail))
        refine ⟨⟨i + 1, by omega⟩, by simp only; omega, ?_⟩
        dsimp only
        exact w_autoX [] (by (conv => whnf); exact And.intro (by kernel_rfl) (And.intro (by kernel_rfl) (by repeat' (first | (with_reducible exact rfl) | ((conv => whnf); first | exact trivial | exact tvi (by rw [hn]) | exact rfl | exact tvi (by first | omega | (dsimp only; omega)) | exact tvr (by first | omega | (dsimp only; omega) | (simp; done) | (simp; omega)) | exact ⟨rfl, (by first | rfl | exact cs_clo _ | exact clo_dsk | exact clo_txn | exact clo_nod | exact clo_fre | exact clo_wri | exact clo_dsk (d := ⟨_, _, _, _, _⟩) | exact clo_txn (t := ⟨⟨_, _, _, _, _⟩, ⟨_, _⟩, _, _⟩) | exact zeros_clo rfl | exact (show closedL (cs _ _) = true from cs_clo _) | (simp only [closedL_append, cs_clo, Bool.true_and, Bool.and_true]; first | rfl | exact zeros_clo rfl)), by first | rfl | rw [List.take_length] | assumption | fail⟩ | refine And.intro ?_ ?_ | fail)))))
      · obtain rfl : i = 4 := by omega
        have e4 : (b.drop (b.length - 4)).take 4 = b.drop (b.length - 4) := List.take_of_length_le (by simp; omega)
        have hiff := gS_iff (b := b) (by omega)
        repeat' ((conv => whnf); (first | refine Exists.intro _ (Exists.intro _ (Exists.intro _ (And.intro rfl (And.intro bndN (And.intro (sl_to (by omega)) ?_))))) | refine Exists.intro _ (Exists.intro (cs true (_ : List UInt8)) (And.intro rfl (And.intro ⟨Nat.le_refl _, bgb (by omega), bg (by omega)⟩ (Exists.intro _ (And.intro ape (Exists.intro _ (And.intro (Nat.zero_add _) ?_))))))) | refine Exists.intro _ (And.intro WGh.refl ?_) | refine And.intro (fun _ => ?_) (fun h => (by first | exact tf h | exact ft h | exact bct h (by assumption) | exact bct (by assumption) h | exact h (by with_reducible rfl) | omega : False).elim) | refine And.intro (fun h => (by first | exact tf h | exact ft h | exact bct h (by assumption) | exact bct (by assumption) h | exact h (by with_reducible rfl) | omega : False).elim) (fun _ => ?_) | refine And.intro (fun _ => ?_) (fun _ => ?_) | refine Exists.intro _ (And.intro (i64_suc (by omega)) ?_) | refine Exists.intro _ (And.intro (i64_in _ (by omega)) ?_) | (apply cg_spec_Crc; refine Exists.intro _ (Exists.intro _ (Exists.intro _ (And.intro rfl (And.intro (t_spec_Crc) ?_))))) | refine And.intro (Drw.mk (by kernel_rfl) (by kernel_rfl) (by kernel_rfl)) ?_ | refine And.intro snc (Exists.intro _ (And.intro snr ?_)) | refine And.intro ⟨Nat.le_refl _, rfl⟩ (Exists.intro [] (And.intro rfl ?_)) | refine And.intro ⟨rfl, rfl, by decide, rfl⟩ ?_ | refine And.intro (PureS.mk (by first | rfl | (simp; done))) ?_ | refine And.intro owc ?_ | refine And.intro (exc (by decide)) ?_ | refine And.intro ⟨by omega, by omega⟩ (Exists.intro _ (And.intro (rd (by omega)) ?_)) | refine And.intro ⟨by omega, by omega⟩ (Exists.intro _ (And.intro ofs ?_)) | refine Exists.intro _ (And.intro (ct0 (by omega)) ?_) | refine Exists.intro _ (And.intro (pt0 (by omega) _ rfl) ?_) | refine And.intro ⟨rfl, by omega, by omega, mks (by omega)⟩ (Exists.intro _ (Exists.intro _ (Exists.intro _ (And.intro (Int.toNat_natCast _) (And.intro rfl (And.intro rfl ?_)))))) | refine Exists.intro _ (And.intro rfl ?_) | refine And.intro (cs_shal _) ?_ | exact ⟨rfl, rfl⟩ | exact ⟨vIe (by omega), rfl⟩ | fail))
        · rename_i h
          exact ⟨by rw [gS_no (fun q => h (by rw [e4, hiff.1 q.2]))]; rfl, rfl⟩
        · rename_i h
          have h' : ((rd4 ((b.drop (b.length - 4)).take 4) : Nat) : Int) = crcN (b.take (b.length - 4)) := Classical.not_not.1 h
          rw [e4] at h'
          exact ⟨by rw [gS_yes (by omega) (hiff.2 (by omega))]; rfl, rfl⟩

theorem cg_spec_GetSum {P : Program} {X : FuncId → List Arg → List (Bool × List Cell) → List (Option (List Cell)) → Prop} {a : List Arg} {Q : List (Bool × List Cell) → List (Option (List Cell)) → Prop} (h : ∃ b vals outs, a = b ∧ D P X (.call 134 b vals outs) ∧ Q vals outs) : CallS P X 134 a Q := ⟨h⟩

end Go.Proofs.Ytacfohamlkbpjaa
