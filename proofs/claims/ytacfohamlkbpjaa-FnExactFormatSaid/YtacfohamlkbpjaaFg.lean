/- Functions of the program, each with what it gives back. -/
import Derived.Test.YtacfohamlkbpjaaKe
import Derived.Test.YtacfohamlkbpjaaChecked
import Derived.IntWalk
import Derived.Test.YtacfohamlkbpjaaFf
namespace Go.Proofs.Ytacfohamlkbpjaa
open Go Go.RowKit Go.IntWalk
open Enc (sz cs)
attribute [local irreducible] IntKind.wrap

attribute [local irreducible] gU gT gS gP gM ptP ptM ptS crcN

set_option maxHeartbeats 2000000 in
set_option maxRecDepth 100000 in
theorem t_impl_GetMeta {b : List UInt8} (hb : b.length ≤ 10000000 := by first | assumption | omega | (simp; done) | (simp; omega)) : T 22 [aE b] [(true, metC (gM b).1), vB (gM b).2] [none] := by
  refine w_call md [[], []] Try.func22 rfl ?_
  obtain ⟨h1, h2⟩ := gU_small (gP b).2.1 0
  obtain ⟨h3, h4⟩ := gU_small (gP b).2.1 (gU (gP b).2.1 0).2.1
  have hl := gP_len (b := b)
  have hlm := ptM_len ⟨(gU (gP b).2.1 0).1, (gU (gP b).2.1 (gU (gP b).2.1 0).2.1).1⟩
  cases hg : (gP b).2.2
  all_goals repeat' ((conv => whnf); (first | refine Exists.intro _ (Exists.intro _ (Exists.intro _ (And.intro rfl (And.intro strOf_ro ?_)))) | refine Exists.intro _ (Exists.intro _ (Exists.intro _ (And.intro (srcO (α := UInt8) rfl rfl) (And.intro strOf_cs ?_)))) | (apply cg_impl_GetU; refine Exists.intro _ (Exists.intro _ (Exists.intro _ (And.intro rfl (And.intro (t_impl_GetU (b := (gP b).2.1) (p := 0)) ?_))))) | (apply cg_impl_PutMeta; refine Exists.intro _ (Exists.intro _ (Exists.intro _ (And.intro rfl (And.intro (t_impl_PutMeta (m := ⟨(gU (gP b).2.1 0).1, (gU (gP b).2.1 (gU (gP b).2.1 0).2.1).1⟩)) ?_))))) | (apply cg_impl_GetPage; refine Exists.intro _ (Exists.intro _ (Exists.intro _ (And.intro rfl (And.intro (t_impl_GetPage (b := b) (o := true)) ?_))))) | (apply cg_impl_GetPage; refine Exists.intro _ (Exists.intro _ (Exists.intro _ (And.intro rfl (And.intro (t_impl_GetPage (b := b) (o := false)) ?_))))) | refine Exists.intro _ (And.intro WGh.refl ?_) | refine And.intro (fun _ => ?_) (fun h => (by first | exact tf h | exact ft h | exact bct h (by assumption) | exact bct (by assumption) h | exact h (by with_reducible rfl) | omega : False).elim) | refine And.intro (fun h => (by first | exact tf h | exact ft h | exact bct h (by assumption) | exact bct (by assumption) h | exact h (by with_reducible rfl) | omega : False).elim) (fun _ => ?_) | refine And.intro (fun _ => ?_) (fun _ => ?_) | refine Exists.intro _ (And.intro (i64_suc (by omega)) ?_) | refine Exists.intro _ (And.intro (i64_in _ (by omega)) ?_) | (apply cg_impl_GetPage; refine Exists.intro _ (Exists.intro _ (Exists.intro _ (And.intro rfl (And.intro (t_impl_GetPage) ?_))))) | (apply cg_impl_GetU; refine Exists.intro _ (Exists.intro _ (Exists.intro _ (And.intro rfl (And.intro (t_impl_GetU) ?_))))) | (apply cg_impl_PutMeta; refine Exists.intro _ (Exists.intro _ (Exists.intro _ (And.intro rfl (And.intro (t_impl_PutMeta) ?_))))) | refine And.intro (Drw.mk (by kernel_rfl) (by kernel_rfl) (by kernel_rfl)) ?_ | refine And.intro snc (Exists.intro _ (And.intro snr ?_)) | refine And.intro ⟨Nat.le_refl _, rfl⟩ (Exists.intro [] (And.intro rfl ?_)) | refine And.intro ⟨rfl, rfl, by decide, rfl⟩ ?_ | refine And.intro (PureS.mk (by first | rfl | (simp; done))) ?_ | refine And.intro owc ?_ | refine And.intro (exc (by decide)) ?_ | refine And.intro ⟨by omega, by omega⟩ (Exists.intro _ (And.intro (rd (by omega)) ?_)) | refine And.intro ⟨by omega, by omega⟩ (Exists.intro _ (And.intro ofs ?_)) | refine Exists.intro _ (And.intro (ct0 (by omega)) ?_) | refine Exists.intro _ (And.intro (pt0 (by omega) _ rfl) ?_) | refine And.intro ⟨rfl, by omega, by omega, mks (by omega)⟩ (Exists.intro _ (Exists.intro _ (Exists.intro _ (And.intro (Int.toNat_natCast _) (And.intro rfl (And.intro rfl ?_)))))) | refine Exists.intro _ (And.intro rfl ?_) | refine And.intro (cs_shal _) ?_ | exact ⟨rfl, rfl⟩ | exact ⟨vIe (by omega), rfl⟩ | fail))
  all_goals first
    | exact ⟨by rw [gM_no (fun q => absurd (q.1.symm.trans ‹(gP b).2.2 = false›) (by decide))]; rfl, rfl⟩
    | exact ⟨by rw [gM_no (fun q => absurd (q.2.1.symm.trans ‹(gU (gP b).2.1 0).2.2 = false›) (by decide))]; rfl, rfl⟩
    | exact ⟨by rw [gM_no (fun q => absurd (q.2.2.1.symm.trans ‹(gU (gP b).2.1 (gU (gP b).2.1 0).2.1).2.2 = false›) (by decide))]; rfl, rfl⟩
    | exact ⟨by rw [gM_no (fun q => (‹_ ≠ (sb b).toList› : _) (by rw [q.2.2.2]))]; rfl, rfl⟩
    | exact ⟨by rw [gM_yes ‹_› ‹_› ‹_› (bl_eq (Classical.not_not.1 ‹¬ (_ ≠ (sb b).toList)›))]; rfl, rfl⟩

theorem cg_impl_GetMeta {P : Program} {X : FuncId → List Arg → List (Bool × List Cell) → List (Option (List Cell)) → Prop} {a : List Arg} {Q : List (Bool × List Cell) → List (Option (List Cell)) → Prop} (h : ∃ b vals outs, a = b ∧ D P X (.call 22 b vals outs) ∧ Q vals outs) : CallS P X 22 a Q := ⟨h⟩

set_option maxHeartbeats 2000000 in
set_option maxRecDepth 100000 in
theorem t_spec_GetMeta {b : List UInt8} (hb : b.length ≤ 10000000 := by first | assumption | omega | (simp; done) | (simp; omega)) : T 20 [aE b] [(true, metC (gM b).1), vB (gM b).2] [none] := by
  refine w_call md [[], []] Try.func20 rfl ?_
  obtain ⟨h1, h2⟩ := gU_small (gP b).2.1 0
  obtain ⟨h3, h4⟩ := gU_small (gP b).2.1 (gU (gP b).2.1 0).2.1
  have hl := gP_len (b := b)
  cases hg : (gP b).2.2
  all_goals repeat' ((conv => whnf); (first | (apply cg_spec_GetU; refine Exists.intro _ (Exists.intro _ (Exists.intro _ (And.intro rfl (And.intro (t_spec_GetU (b := (gP b).2.1) (p := 0)) ?_))))) | (apply cg_spec_MetaOk; refine Exists.intro _ (Exists.intro _ (Exists.intro _ (And.intro rfl (And.intro (t_spec_MetaOk (m := ⟨(gU (gP b).2.1 0).1, (gU (gP b).2.1 (gU (gP b).2.1 0).2.1).1⟩)) ?_))))) | (apply cg_spec_GetPage; refine Exists.intro _ (Exists.intro _ (Exists.intro _ (And.intro rfl (And.intro (t_spec_GetPage (b := b) (o := true)) ?_))))) | (apply cg_spec_GetPage; refine Exists.intro _ (Exists.intro _ (Exists.intro _ (And.intro rfl (And.intro (t_spec_GetPage (b := b) (o := false)) ?_))))) | refine Exists.intro _ (And.intro WGh.refl ?_) | refine And.intro (fun _ => ?_) (fun h => (by first | exact tf h | exact ft h | exact bct h (by assumption) | exact bct (by assumption) h | exact h (by with_reducible rfl) | omega : False).elim) | refine And.intro (fun h => (by first | exact tf h | exact ft h | exact bct h (by assumption) | exact bct (by assumption) h | exact h (by with_reducible rfl) | omega : False).elim) (fun _ => ?_) | refine And.intro (fun _ => ?_) (fun _ => ?_) | refine Exists.intro _ (And.intro (i64_suc (by omega)) ?_) | refine Exists.intro _ (And.intro (i64_in _ (by omega)) ?_) | (apply cg_spec_GetPage; refine Exists.intro _ (Exists.intro _ (Exists.intro _ (And.intro rfl (And.intro (t_spec_GetPage) ?_))))) | (apply cg_spec_GetU; refine Exists.intro _ (Exists.intro _ (Exists.intro _ (And.intro rfl (And.intro (t_spec_GetU) ?_))))) | (apply cg_spec_MetaOk; refine Exists.intro _ (Exists.intro _ (Exists.intro _ (And.intro rfl (And.intro (t_spec_MetaOk) ?_))))) | refine And.intro (Drw.mk (by kernel_rfl) (by kernel_rfl) (by kernel_rfl)) ?_ | refine And.intro snc (Exists.intro _ (And.intro snr ?_)) | refine And.intro ⟨Nat.le_refl _, rfl⟩ (Exists.intro [] (And.intro rfl ?_)) | refine And.intro ⟨rfl, rfl, by decide, rfl⟩ ?_ | refine And.intro (PureS.mk (by first | rfl | (simp; done))) ?_ | refine And.intro owc ?_ | refine And.intro (exc (by decide)) ?_ | refine And.intro ⟨by omega, by omega⟩ (Exists.intro _ (And.intro (rd (by omega)) ?_)) | refine And.intro ⟨by omega, by omega⟩ (Exists.intro _ (And.intro ofs ?_)) | refine Exists.intro _ (And.intro (ct0 (by omega)) ?_) | refine Exists.intro _ (And.intro (pt0 (by omega) _ rfl) ?_) | refine And.intro ⟨rfl, by omega, by omega, mks (by omega)⟩ (Exists.intro _ (Exists.intro _ (Exists.intro _ (And.intro (Int.toNat_natCast _) (And.intro rfl (And.intro rfl ?_)))))) | refine Exists.intro _ (And.intro rfl ?_) | refine And.intro (cs_shal _) ?_ | exact ⟨rfl, rfl⟩ | exact ⟨vIe (by omega), rfl⟩ | fail))
  all_goals first
    | exact ⟨by rw [gM_no (fun q => absurd (q.1.symm.trans ‹(gP b).2.2 = false›) (by decide))]; rfl, rfl⟩
    | exact ⟨by rw [gM_no (fun q => absurd (q.2.1.symm.trans ‹(gU (gP b).2.1 0).2.2 = false›) (by decide))]; rfl, rfl⟩
    | exact ⟨by rw [gM_no (fun q => absurd (q.2.2.1.symm.trans ‹(gU (gP b).2.1 (gU (gP b).2.1 0).2.1).2.2 = false›) (by decide))]; rfl, rfl⟩
    | exact ⟨by rw [gM_no (fun q => by have := (gM_iff ‹_› ‹_› ‹_›).2 q.2.2.2; omega)]; rfl, rfl⟩
    | exact ⟨by rw [gM_no (fun q => by have := (gM_iff ‹_› ‹_› ‹_›).2 q.2.2.2; exact absurd (this.2.2.symm.trans ‹metaOk _ = false›) (by decide))]; rfl, rfl⟩
    | exact ⟨by have q := (gM_iff ‹_› ‹_› ‹_›).1 ⟨by omega, by omega, ‹_›⟩; rw [gM_yes ‹_› ‹_› ‹_› q]; rfl, rfl⟩

theorem cg_spec_GetMeta {P : Program} {X : FuncId → List Arg → List (Bool × List Cell) → List (Option (List Cell)) → Prop} {a : List Arg} {Q : List (Bool × List Cell) → List (Option (List Cell)) → Prop} (h : ∃ b vals outs, a = b ∧ D P X (.call 20 b vals outs) ∧ Q vals outs) : CallS P X 20 a Q := ⟨h⟩

end Go.Proofs.Ytacfohamlkbpjaa
