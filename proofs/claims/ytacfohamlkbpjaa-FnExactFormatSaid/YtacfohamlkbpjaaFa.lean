/- Functions of the program, each with what it gives back. -/
import Derived.Test.YtacfohamlkbpjaaKe
import Derived.Test.YtacfohamlkbpjaaChecked
import Derived.IntWalk
namespace Go.Proofs.Ytacfohamlkbpjaa
open Go Go.RowKit Go.IntWalk
open Enc (sz cs)
attribute [local irreducible] IntKind.wrap

def md : FuncId → List Mode
  | 71 => [.own 1]
  | 146 => [.val [2]]
  | 132 => [.own 1]
  | 131 => [.own 1]
  | 18 => [.own 1]
  | 93 => [.own 1]
  | 94 => [.own 2]
  | 43 => [.own 3]
  | 109 => [.own 5]
  | 121 => [.own 1]
  | 122 => [.own 1]
  | 66 => [.own 2]
  | 36 => [.str]
  | 52 => [.str]
  | 59 => [.str]
  | _ => []

abbrev X0 : FuncId → List Arg → List (Bool × List Cell) → List (Option (List Cell)) → Prop := fun _ _ _ _ => False
abbrev T (f : FuncId) (a : List Arg) (vals : List (Bool × List Cell)) (outs : List (Option (List Cell))) : Prop := D Try.prog X0 (.call f a vals outs)
abbrev aI (n : Int) : Arg := .val false [i6 n]
abbrev aB (n : Bool) : Arg := .val false [b1 n]
abbrev aS (n : ByteArray) : Arg := .val false [s1 n]
abbrev aE {α : Type} [Enc α] (xs : List α) : Arg := .val false [slE false xs]
abbrev aO {α : Type} [Enc α] (xs : List α) : Arg := .own false xs.length (sz α) (cs true xs)
abbrev vI (n : Int) : Bool × List Cell := (false, [i6 n])
abbrev vB (b : Bool) : Bool × List Cell := (false, [b1 b])
abbrev vS (b : ByteArray) : Bool × List Cell := (false, [s1 b])
abbrev vE {α : Type} [Enc α] (xs : List α) : Bool × List Cell := (false, [slE true xs])

theorem vIe {a b : Int} (h : a = b) : [vI a] = [vI b] := by rw [h]

set_option maxRecDepth 100000 in
theorem t_impl_in {n l h : Int} : T 82 [aI n, aI l, aI h] [vB (inB n l h)] [none, none, none] := by
  refine w_call md [] Try.func82 rfl ?_
  repeat' ((conv => whnf); (first | refine Exists.intro _ (And.intro WGh.refl ?_) | refine And.intro (fun _ => ?_) (fun h => (by first | exact tf h | exact ft h | exact bct h (by assumption) | exact bct (by assumption) h | exact h (by with_reducible rfl) | omega : False).elim) | refine And.intro (fun h => (by first | exact tf h | exact ft h | exact bct h (by assumption) | exact bct (by assumption) h | exact h (by with_reducible rfl) | omega : False).elim) (fun _ => ?_) | refine And.intro (fun _ => ?_) (fun _ => ?_) | refine Exists.intro _ (And.intro (i64_suc (by omega)) ?_) | refine Exists.intro _ (And.intro (i64_in _ (by omega)) ?_) | refine And.intro (Drw.mk (by kernel_rfl) (by kernel_rfl) (by kernel_rfl)) ?_ | refine And.intro snc (Exists.intro _ (And.intro snr ?_)) | refine And.intro ⟨Nat.le_refl _, rfl⟩ (Exists.intro [] (And.intro rfl ?_)) | refine And.intro ⟨rfl, rfl, by decide, rfl⟩ ?_ | refine And.intro (PureS.mk (by first | rfl | (simp; done))) ?_ | refine And.intro owc ?_ | refine And.intro (exc (by decide)) ?_ | refine And.intro ⟨by omega, by omega⟩ (Exists.intro _ (And.intro (rd (by omega)) ?_)) | refine And.intro ⟨by omega, by omega⟩ (Exists.intro _ (And.intro ofs ?_)) | refine Exists.intro _ (And.intro (ct0 (by omega)) ?_) | refine Exists.intro _ (And.intro (pt0 (by omega) _ rfl) ?_) | refine And.intro ⟨rfl, by omega, by omega, mks (by omega)⟩ (Exists.intro _ (Exists.intro _ (Exists.intro _ (And.intro (Int.toNat_natCast _) (And.intro rfl (And.intro rfl ?_)))))) | refine Exists.intro _ (And.intro rfl ?_) | refine And.intro (cs_shal _) ?_ | exact ⟨rfl, rfl⟩ | exact ⟨vIe (by omega), rfl⟩ | fail))
  all_goals exact ⟨by simp [inB]; omega, rfl⟩

theorem cg_impl_in {P : Program} {X : FuncId → List Arg → List (Bool × List Cell) → List (Option (List Cell)) → Prop} {a : List Arg} {Q : List (Bool × List Cell) → List (Option (List Cell)) → Prop} (h : ∃ b vals outs, a = b ∧ D P X (.call 82 b vals outs) ∧ Q vals outs) : CallS P X 82 a Q := ⟨h⟩

set_option maxRecDepth 100000 in
theorem t_spec_l1In {n l h : Int} : T 84 [aI n, aI l, aI h] [vB (inB n l h)] [none, none, none] := by
  refine w_call md [] Try.func84 rfl ?_
  repeat' ((conv => whnf); (first | refine Exists.intro _ (And.intro WGh.refl ?_) | refine And.intro (fun _ => ?_) (fun h => (by first | exact tf h | exact ft h | exact bct h (by assumption) | exact bct (by assumption) h | exact h (by with_reducible rfl) | omega : False).elim) | refine And.intro (fun h => (by first | exact tf h | exact ft h | exact bct h (by assumption) | exact bct (by assumption) h | exact h (by with_reducible rfl) | omega : False).elim) (fun _ => ?_) | refine And.intro (fun _ => ?_) (fun _ => ?_) | refine Exists.intro _ (And.intro (i64_suc (by omega)) ?_) | refine Exists.intro _ (And.intro (i64_in _ (by omega)) ?_) | refine And.intro (Drw.mk (by kernel_rfl) (by kernel_rfl) (by kernel_rfl)) ?_ | refine And.intro snc (Exists.intro _ (And.intro snr ?_)) | refine And.intro ⟨Nat.le_refl _, rfl⟩ (Exists.intro [] (And.intro rfl ?_)) | refine And.intro ⟨rfl, rfl, by decide, rfl⟩ ?_ | refine And.intro (PureS.mk (by first | rfl | (simp; done))) ?_ | refine And.intro owc ?_ | refine And.intro (exc (by decide)) ?_ | refine And.intro ⟨by omega, by omega⟩ (Exists.intro _ (And.intro (rd (by omega)) ?_)) | refine And.intro ⟨by omega, by omega⟩ (Exists.intro _ (And.intro ofs ?_)) | refine Exists.intro _ (And.intro (ct0 (by omega)) ?_) | refine Exists.intro _ (And.intro (pt0 (by omega) _ rfl) ?_) | refine And.intro ⟨rfl, by omega, by omega, mks (by omega)⟩ (Exists.intro _ (Exists.intro _ (Exists.intro _ (And.intro (Int.toNat_natCast _) (And.intro rfl (And.intro rfl ?_)))))) | refine Exists.intro _ (And.intro rfl ?_) | refine And.intro (cs_shal _) ?_ | exact ⟨rfl, rfl⟩ | exact ⟨vIe (by omega), rfl⟩ | fail))
  all_goals exact ⟨by simp [inB]; omega, rfl⟩

theorem cg_spec_l1In {P : Program} {X : FuncId → List Arg → List (Bool × List Cell) → List (Option (List Cell)) → Prop} {a : List Arg} {Q : List (Bool × List Cell) → List (Option (List Cell)) → Prop} (h : ∃ b vals outs, a = b ∧ D P X (.call 84 b vals outs) ∧ Q vals outs) : CallS P X 84 a Q := ⟨h⟩

set_option maxRecDepth 100000 in
theorem t_impl_isSector {n : Int} : T 83 [aI n] [vB (inB n 2 47)] [none] := by
  refine w_call md [] Try.func83 rfl ?_
  repeat' ((conv => whnf); (first | refine Exists.intro _ (And.intro WGh.refl ?_) | refine And.intro (fun _ => ?_) (fun h => (by first | exact tf h | exact ft h | exact bct h (by assumption) | exact bct (by assumption) h | exact h (by with_reducible rfl) | omega : False).elim) | refine And.intro (fun h => (by first | exact tf h | exact ft h | exact bct h (by assumption) | exact bct (by assumption) h | exact h (by with_reducible rfl) | omega : False).elim) (fun _ => ?_) | refine And.intro (fun _ => ?_) (fun _ => ?_) | refine Exists.intro _ (And.intro (i64_suc (by omega)) ?_) | refine Exists.intro _ (And.intro (i64_in _ (by omega)) ?_) | (apply cg_impl_in; refine Exists.intro _ (Exists.intro _ (Exists.intro _ (And.intro rfl (And.intro (t_impl_in) ?_))))) | refine And.intro (Drw.mk (by kernel_rfl) (by kernel_rfl) (by kernel_rfl)) ?_ | refine And.intro snc (Exists.intro _ (And.intro snr ?_)) | refine And.intro ⟨Nat.le_refl _, rfl⟩ (Exists.intro [] (And.intro rfl ?_)) | refine And.intro ⟨rfl, rfl, by decide, rfl⟩ ?_ | refine And.intro (PureS.mk (by first | rfl | (simp; done))) ?_ | refine And.intro owc ?_ | refine And.intro (exc (by decide)) ?_ | refine And.intro ⟨by omega, by omega⟩ (Exists.intro _ (And.intro (rd (by omega)) ?_)) | refine And.intro ⟨by omega, by omega⟩ (Exists.intro _ (And.intro ofs ?_)) | refine Exists.intro _ (And.intro (ct0 (by omega)) ?_) | refine Exists.intro _ (And.intro (pt0 (by omega) _ rfl) ?_) | refine And.intro ⟨rfl, by omega, by omega, mks (by omega)⟩ (Exists.intro _ (Exists.intro _ (Exists.intro _ (And.intro (Int.toNat_natCast _) (And.intro rfl (And.intro rfl ?_)))))) | refine Exists.intro _ (And.intro rfl ?_) | refine And.intro (cs_shal _) ?_ | exact ⟨rfl, rfl⟩ | exact ⟨vIe (by omega), rfl⟩ | fail))
  all_goals exact ⟨by simp [*], rfl⟩

theorem cg_impl_isSector {P : Program} {X : FuncId → List Arg → List (Bool × List Cell) → List (Option (List Cell)) → Prop} {a : List Arg} {Q : List (Bool × List Cell) → List (Option (List Cell)) → Prop} (h : ∃ b vals outs, a = b ∧ D P X (.call 83 b vals outs) ∧ Q vals outs) : CallS P X 83 a Q := ⟨h⟩

set_option maxRecDepth 100000 in
theorem t_spec_MetaOk {m : Met} : T 29 [.val true (metC m)] [vB (metaOk m)] [none] := by
  refine w_call md [] Try.func29 rfl ?_
  repeat' ((conv => whnf); (first | refine Exists.intro _ (And.intro WGh.refl ?_) | refine And.intro (fun _ => ?_) (fun h => (by first | exact tf h | exact ft h | exact bct h (by assumption) | exact bct (by assumption) h | exact h (by with_reducible rfl) | omega : False).elim) | refine And.intro (fun h => (by first | exact tf h | exact ft h | exact bct h (by assumption) | exact bct (by assumption) h | exact h (by with_reducible rfl) | omega : False).elim) (fun _ => ?_) | refine And.intro (fun _ => ?_) (fun _ => ?_) | refine Exists.intro _ (And.intro (i64_suc (by omega)) ?_) | refine Exists.intro _ (And.intro (i64_in _ (by omega)) ?_) | (apply cg_spec_l1In; refine Exists.intro _ (Exists.intro _ (Exists.intro _ (And.intro rfl (And.intro (t_spec_l1In) ?_))))) | refine And.intro (Drw.mk (by kernel_rfl) (by kernel_rfl) (by kernel_rfl)) ?_ | refine And.intro snc (Exists.intro _ (And.intro snr ?_)) | refine And.intro ⟨Nat.le_refl _, rfl⟩ (Exists.intro [] (And.intro rfl ?_)) | refine And.intro ⟨rfl, rfl, by decide, rfl⟩ ?_ | refine And.intro (PureS.mk (by first | rfl | (simp; done))) ?_ | refine And.intro owc ?_ | refine And.intro (exc (by decide)) ?_ | refine And.intro ⟨by omega, by omega⟩ (Exists.intro _ (And.intro (rd (by omega)) ?_)) | refine And.intro ⟨by omega, by omega⟩ (Exists.intro _ (And.intro ofs ?_)) | refine Exists.intro _ (And.intro (ct0 (by omega)) ?_) | refine Exists.intro _ (And.intro (pt0 (by omega) _ rfl) ?_) | refine And.intro ⟨rfl, by omega, by omega, mks (by omega)⟩ (Exists.intro _ (Exists.intro _ (Exists.intro _ (And.intro (Int.toNat_natCast _) (And.intro rfl (And.intro rfl ?_)))))) | refine Exists.intro _ (And.intro rfl ?_) | refine And.intro (cs_shal _) ?_ | exact ⟨rfl, rfl⟩ | exact ⟨vIe (by omega), rfl⟩ | fail))
  all_goals exact ⟨by simp [metaOk, *], rfl⟩

theorem cg_spec_MetaOk {P : Program} {X : FuncId → List Arg → List (Bool × List Cell) → List (Option (List Cell)) → Prop} {a : List Arg} {Q : List (Bool × List Cell) → List (Option (List Cell)) → Prop} (h : ∃ b vals outs, a = b ∧ D P X (.call 29 b vals outs) ∧ Q vals outs) : CallS P X 29 a Q := ⟨h⟩

set_option maxRecDepth 100000 in
theorem t_impl_MetaOk {m : Met} : T 27 [.val true (metC m)] [vB (metaOk m)] [none] := by
  refine w_call md [] Try.func27 rfl ?_
  repeat' ((conv => whnf); (first | refine Exists.intro _ (And.intro WGh.refl ?_) | refine And.intro (fun _ => ?_) (fun h => (by first | exact tf h | exact ft h | exact bct h (by assumption) | exact bct (by assumption) h | exact h (by with_reducible rfl) | omega : False).elim) | refine And.intro (fun h => (by first | exact tf h | exact ft h | exact bct h (by assumption) | exact bct (by assumption) h | exact h (by with_reducible rfl) | omega : False).elim) (fun _ => ?_) | refine And.intro (fun _ => ?_) (fun _ => ?_) | refine Exists.intro _ (And.intro (i64_suc (by omega)) ?_) | refine Exists.intro _ (And.intro (i64_in _ (by omega)) ?_) | (apply cg_impl_in; refine Exists.intro _ (Exists.intro _ (Exists.intro _ (And.intro rfl (And.intro (t_impl_in) ?_))))) | (apply cg_impl_isSector; refine Exists.intro _ (Exists.intro _ (Exists.intro _ (And.intro rfl (And.intro (t_impl_isSector) ?_))))) | refine And.intro (Drw.mk (by kernel_rfl) (by kernel_rfl) (by kernel_rfl)) ?_ | refine And.intro snc (Exists.intro _ (And.intro snr ?_)) | refine And.intro ⟨Nat.le_refl _, rfl⟩ (Exists.intro [] (And.intro rfl ?_)) | refine And.intro ⟨rfl, rfl, by decide, rfl⟩ ?_ | refine And.intro (PureS.mk (by first | rfl | (simp; done))) ?_ | refine And.intro owc ?_ | refine And.intro (exc (by decide)) ?_ | refine And.intro ⟨by omega, by omega⟩ (Exists.intro _ (And.intro (rd (by omega)) ?_)) | refine And.intro ⟨by omega, by omega⟩ (Exists.intro _ (And.intro ofs ?_)) | refine Exists.intro _ (And.intro (ct0 (by omega)) ?_) | refine Exists.intro _ (And.intro (pt0 (by omega) _ rfl) ?_) | refine And.intro ⟨rfl, by omega, by omega, mks (by omega)⟩ (Exists.intro _ (Exists.intro _ (Exists.intro _ (And.intro (Int.toNat_natCast _) (And.intro rfl (And.intro rfl ?_)))))) | refine Exists.intro _ (And.intro rfl ?_) | refine And.intro (cs_shal _) ?_ | exact ⟨rfl, rfl⟩ | exact ⟨vIe (by omega), rfl⟩ | fail))
  all_goals exact ⟨by simp [metaOk, *], rfl⟩

theorem cg_impl_MetaOk {P : Program} {X : FuncId → List Arg → List (Bool × List Cell) → List (Option (List Cell)) → Prop} {a : List Arg} {Q : List (Bool × List Cell) → List (Option (List Cell)) → Prop} (h : ∃ b vals outs, a = b ∧ D P X (.call 27 b vals outs) ∧ Q vals outs) : CallS P X 27 a Q := ⟨h⟩

set_option maxRecDepth 100000 in
theorem t_laws_toMeta {m : Met} : T 15 [.val true (metC m)] [(true, metC m)] [none] := by
  refine w_call md [] Try.func15 rfl ?_
  repeat' ((conv => whnf); (first | refine Exists.intro _ (And.intro WGh.refl ?_) | refine And.intro (fun _ => ?_) (fun h => (by first | exact tf h | exact ft h | exact bct h (by assumption) | exact bct (by assumption) h | exact h (by with_reducible rfl) | omega : False).elim) | refine And.intro (fun h => (by first | exact tf h | exact ft h | exact bct h (by assumption) | exact bct (by assumption) h | exact h (by with_reducible rfl) | omega : False).elim) (fun _ => ?_) | refine And.intro (fun _ => ?_) (fun _ => ?_) | refine Exists.intro _ (And.intro (i64_suc (by omega)) ?_) | refine Exists.intro _ (And.intro (i64_in _ (by omega)) ?_) | refine And.intro (Drw.mk (by kernel_rfl) (by kernel_rfl) (by kernel_rfl)) ?_ | refine And.intro snc (Exists.intro _ (And.intro snr ?_)) | refine And.intro ⟨Nat.le_refl _, rfl⟩ (Exists.intro [] (And.intro rfl ?_)) | refine And.intro ⟨rfl, rfl, by decide, rfl⟩ ?_ | refine And.intro (PureS.mk (by first | rfl | (simp; done))) ?_ | refine And.intro owc ?_ | refine And.intro (exc (by decide)) ?_ | refine And.intro ⟨by omega, by omega⟩ (Exists.intro _ (And.intro (rd (by omega)) ?_)) | refine And.intro ⟨by omega, by omega⟩ (Exists.intro _ (And.intro ofs ?_)) | refine Exists.intro _ (And.intro (ct0 (by omega)) ?_) | refine Exists.intro _ (And.intro (pt0 (by omega) _ rfl) ?_) | refine And.intro ⟨rfl, by omega, by omega, mks (by omega)⟩ (Exists.intro _ (Exists.intro _ (Exists.intro _ (And.intro (Int.toNat_natCast _) (And.intro rfl (And.intro rfl ?_)))))) | refine Exists.intro _ (And.intro rfl ?_) | refine And.intro (cs_shal _) ?_ | exact ⟨rfl, rfl⟩ | exact ⟨vIe (by omega), rfl⟩ | fail))

theorem cg_laws_toMeta {P : Program} {X : FuncId → List Arg → List (Bool × List Cell) → List (Option (List Cell)) → Prop} {a : List Arg} {Q : List (Bool × List Cell) → List (Option (List Cell)) → Prop} (h : ∃ b vals outs, a = b ∧ D P X (.call 15 b vals outs) ∧ Q vals outs) : CallS P X 15 a Q := ⟨h⟩

end Go.Proofs.Ytacfohamlkbpjaa
