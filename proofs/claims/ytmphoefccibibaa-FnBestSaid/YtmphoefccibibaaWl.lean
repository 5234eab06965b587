/- Functions of the program, each with what it gives back. -/
import Derived.Test.YtmphoefccibibaaKe
import Derived.Test.YtmphoefccibibaaChecked
import Derived.IntWalk
import Derived.Test.YtmphoefccibibaaDb
namespace Go.Proofs.Ytmphoefccibibaa
open Go Go.RowKit Go.IntWalk
open Enc (sz cs)
attribute [local irreducible] IntKind.wrap

/-- A place for a cut. -/
def atN (b : List UInt8) (i : Nat) : Nat := if i < b.length then (b.getD i 0).toNat else (i * 31 + b.length * 7) % 256
theorem atN_y {b : List UInt8} {i : Nat} (h : i < b.length) : atN b i = b[i].toNat := by
  unfold atN; rw [if_pos h, List.getD_eq_getElem?_getD, List.getElem?_eq_getElem h]; rfl
theorem atN_n {b : List UInt8} {i : Nat} (h : ¬ i < b.length) : atN b i = (i * 31 + b.length * 7) % 256 := if_neg h
theorem dgC_len {b : List UInt8} : (dgC b).length ≤ 261 := by
  have h1 := ptP_len 2 (smC (blC (nwC b) 6).2).1
  have h2 := ptM_len (mtC (blC (nwC b) 6).2).1
  by_cases h : (blC (nwC b) 6).1 = 0
  · rw [dgC_y h]; omega
  · rw [dgC_n h]
    generalize ptM (mtC (blC (nwC b) 6).2).1 = x at *
    generalize (mtC (blC (nwC b) 6).2).2 = c
    by_cases h0 : x.length = 0
    · rw [bdC_e h0]; simp only; omega
    · by_cases c0 : (blC c 5).1 = 0
      · rw [bdC_0 h0 c0]; simp only [List.length_set]; omega
      · by_cases c1 : (blC c 5).1 = 1
        · rw [bdC_1 h0 c1]; simp only [List.length_append, List.length_singleton]; omega
        · by_cases c2 : (blC c 5).1 = 2
          · rw [bdC_2 h0 c2]; simp only [List.length_take]; omega
          · rw [bdC_3 h0 c0 c1 c2]; simp only; omega
attribute [local irreducible] gU gT gS gP gM ptP ptM ptS crcN dgC anC nwC

set_option maxRecDepth 100000 in
theorem tx4 {b : List UInt8} (hb : b.length ≤ 140737488355327 := by first | assumption | omega | (simp; done) | (simp; omega)) : T 4 [aE b] [vB (decide (1048576 < (b.length : Int)))] [none] := by
  refine w_call md [] Try.func4 rfl ?_
  repeat' ((conv => whnf); (first | refine k0 ?_ | refine jA fun _ => ?_ | refine jB fun _ => ?_ | refine kC (fun _ => ?_) fun _ => ?_ | refine jS ?_ | refine jI ?_ | refine jD ?_ | refine ⟨snc, _, snr, ?_⟩ | refine ⟨⟨Nat.le_refl _, rfl⟩, [], rfl, ?_⟩ | refine And.intro ⟨rfl, rfl, by decide, rfl⟩ ?_ | refine jP ?_ | refine jO ?_ | refine jX ?_ | refine jb jr ?_ | refine jb ofs ?_ | refine ko jc ?_ | refine ko jp ?_ | refine jM ?_ | refine kr ?_ | refine ko rfl ?_ | refine And.intro (cs_shal _) ?_ | refine And.intro (rfl : List.all _ _ = true) ?_ | refine And.intro ⟨rfl, (rfl : List.all _ _ = true)⟩ ?_ | exact ⟨rfl, rfl⟩ | exact jV | fail))
  all_goals first | exact ⟨by rw [decide_eq_true (by omega)], rfl⟩ | exact ⟨by rw [decide_eq_false (by omega)], rfl⟩

theorem cx4 {P : Program} {X : FuncId → List Arg → List (Bool × List Cell) → List (Option (List Cell)) → Prop} {a : List Arg} {Q : List (Bool × List Cell) → List (Option (List Cell)) → Prop} (h : ∃ b vals outs, a = b ∧ D P X (.call 4 b vals outs) ∧ Q vals outs) : CallS P X 4 a Q := ⟨h⟩

theorem eqM' (a b c d : Int) : eqStruct Try.prog 31 [i6 a, i6 b] [i6 c, i6 d] = (match (some (a == c) : Option Bool) with | some true => (match (some (b == d) : Option Bool) with | some true => some true | some false => some false | none => none) | some false => some false | none => none) := by kernel_rfl
theorem eqM_y {a b : Int} : eqStruct Try.prog 31 [i6 a, i6 b] [i6 a, i6 b] = some true := by
  rw [eqM', beq_self_eq_true, beq_self_eq_true]
theorem csR {xs : List UInt8} {k : Nat} (h : k ≤ xs.length) : roifyL (((cs true xs).drop (0 + 0 * 1)).take ((k - 0) * 1)) = cs false (xs.take k) := by
  have := cs_drop0 (α := UInt8) (o := true) (xs := xs) (show 0 + k ≤ xs.length by omega)
  have e : ((cs true xs).drop (0 + 0 * 1)).take ((k - 0) * 1) = cs true (xs.take k) := by simpa using this
  rw [e, cs_ro]
theorem snR {xs : List UInt8} {k : Nat} (h : k ≤ xs.length) : (0 + 0 * 1) + (k - 0) * 1 ≤ (cs true xs).length ∧ (((cs true xs).drop (0 + 0 * 1)).take ((k - 0) * 1)).all Cell.shal = true := by
  have := cs_drop0 (α := UInt8) (o := true) (xs := xs) (show 0 + k ≤ xs.length by omega)
  have e : ((cs true xs).drop (0 + 0 * 1)).take ((k - 0) * 1) = cs true (xs.take k) := by simpa using this
  exact ⟨by rw [cs_len]; show _ ≤ xs.length * 1; omega, by rw [e]; exact cs_shal _⟩

end Go.Proofs.Ytmphoefccibibaa
