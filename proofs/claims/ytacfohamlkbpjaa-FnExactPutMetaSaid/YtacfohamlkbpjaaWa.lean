/- Functions of the program, each with what it gives back. -/
import Derived.Test.YtacfohamlkbpjaaVd
import Derived.Test.YtacfohamlkbpjaaChecked
import Derived.IntWalk
import Derived.Test.YtacfohamlkbpjaaLa
import Derived.Test.YtacfohamlkbpjaaFc
namespace Go.Proofs.Ytacfohamlkbpjaa
open Go Go.RowKit Go.IntWalk
open Enc (sz cs)

theorem ptP_len (k : Int) (b : List UInt8) : (ptP k b).length ≤ 260 := by
  unfold ptP
  split
  · rename_i h
    have h1 := uenc_len (clN_le k)
    have h2 := uenc_len (clN_le b.length)
    simp [ptS, be4]; omega
  · simp
theorem ptM_len (m : Met) : (ptM m).length ≤ 260 := by
  unfold ptM
  split
  · exact ptP_len _ _
  · simp

set_option maxRecDepth 100000 in
theorem t_laws_FnExactPutMeta {m : Met} : T 3 [.val true (metC m)] [vB true] [none] := by
  refine w_call md [] Try.func3 rfl ?_
  have hlen := ptM_len m
  repeat' ((conv => whnf); (first | refine Exists.intro _ (Exists.intro _ (Exists.intro _ (And.intro rfl (And.intro (t_laws_toMeta (m := m)) (And.intro (by first | exact .inl rfl | exact .inr rfl | exact .inr (by simp [pureV, pureL, Cell.pure])) (And.intro (Nat.le_of_ble_eq_true rfl) ?_)))))) | refine Exists.intro _ (Exists.intro _ (Exists.intro _ (And.intro rfl (And.intro (t_laws_markByteS (l := ptM m) (a := 1)) (And.intro (by first | exact .inl rfl | exact .inr rfl | exact .inr (by simp [pureV, pureL, Cell.pure])) (And.intro (Nat.le_of_ble_eq_true rfl) ?_)))))) | refine Exists.intro _ (Exists.intro _ (Exists.intro _ (And.intro rfl (And.intro (t_laws_heldByteS (l := ptM m) (a := 1)) (And.intro (by first | exact .inl rfl | exact .inr rfl | exact .inr (by simp [pureV, pureL, Cell.pure])) (And.intro (Nat.le_of_ble_eq_true rfl) ?_)))))) | refine Exists.intro _ (And.intro WGh.refl ?_) | refine And.intro (fun _ => ?_) (fun h => (by first | exact tf h | exact ft h | exact h rfl | omega : False).elim) | refine And.intro (fun h => (by first | exact tf h | exact ft h | exact h rfl | omega : False).elim) (fun _ => ?_) | refine And.intro (fun _ => ?_) (fun _ => ?_) | refine Exists.intro _ (And.intro (i64_suc (by omega)) ?_) | refine Exists.intro _ (And.intro (i64_in _ (by omega)) ?_) | refine Exists.intro _ (Exists.intro _ (Exists.intro _ (And.intro rfl (And.intro t_laws_toMeta (And.intro (by first | exact .inl rfl | exact .inr rfl | exact .inr (by simp [pureV, pureL, Cell.pure])) (And.intro (Nat.le_of_ble_eq_true rfl) ?_)))))) | refine Exists.intro _ (Exists.intro _ (Exists.intro _ (And.intro rfl (And.intro t_spec_PutMeta (And.intro (by first | exact .inl rfl | exact .inr rfl | exact .inr (by simp [pureV, pureL, Cell.pure])) (And.intro (Nat.le_of_ble_eq_true rfl) ?_)))))) | refine Exists.intro _ (Exists.intro _ (Exists.intro _ (And.intro rfl (And.intro t_impl_PutMeta (And.intro (by first | exact .inl rfl | exact .inr rfl | exact .inr (by simp [pureV, pureL, Cell.pure])) (And.intro (Nat.le_of_ble_eq_true rfl) ?_)))))) | refine Exists.intro _ (Exists.intro _ (Exists.intro _ (And.intro rfl (And.intro t_laws_eqByteS (And.intro (by first | exact .inl rfl | exact .inr rfl | exact .inr (by simp [pureV, pureL, Cell.pure])) (And.intro (Nat.le_of_ble_eq_true rfl) ?_)))))) | refine Exists.intro _ (Exists.intro _ (Exists.intro _ (And.intro rfl (And.intro t_laws_markByteS (And.intro (by first | exact .inl rfl | exact .inr rfl | exact .inr (by simp [pureV, pureL, Cell.pure])) (And.intro (Nat.le_of_ble_eq_true rfl) ?_)))))) | refine Exists.intro _ (Exists.intro _ (Exists.intro _ (And.intro rfl (And.intro t_laws_heldByteS (And.intro (by first | exact .inl rfl | exact .inr rfl | exact .inr (by simp [pureV, pureL, Cell.pure])) (And.intro (Nat.le_of_ble_eq_true rfl) ?_)))))) | refine And.intro snc (Exists.intro _ (And.intro snr ?_)) | refine And.intro ⟨Nat.le_refl _, rfl⟩ (Exists.intro [] (And.intro rfl ?_)) | refine And.intro ⟨rfl, rfl, by decide, rfl⟩ ?_ | refine And.intro owc ?_ | refine And.intro (exc (by decide)) ?_ | refine And.intro (Drw.mk (by kernel_rfl) (by kernel_rfl) (by kernel_rfl)) ?_ | refine And.intro ⟨by omega, by omega⟩ (Exists.intro _ (And.intro (rd (by omega)) ?_)) | refine And.intro ⟨by omega, by omega⟩ (Exists.intro _ (And.intro ofs ?_)) | refine Exists.intro _ (And.intro (ct0 (by omega)) ?_) | refine Exists.intro _ (And.intro (pt0 (by omega) _ rfl) ?_) | refine And.intro ⟨rfl, by omega, by omega, mks (by omega)⟩ (Exists.intro _ (Exists.intro _ (Exists.intro _ (And.intro (Int.toNat_natCast _) (And.intro rfl (And.intro rfl ?_)))))) | refine Exists.intro _ (And.intro rfl ?_) | refine And.intro (cs_shal _) ?_ | exact ⟨rfl, rfl⟩ | exact ⟨vIe (by omega), rfl⟩ | fail))

end Go.Proofs.Ytacfohamlkbpjaa
