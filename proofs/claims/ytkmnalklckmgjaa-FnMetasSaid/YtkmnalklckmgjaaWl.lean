/- Functions of the program, each with what it gives back. -/
import Derived.Test.YtkmnalklckmgjaaKe
import Derived.Test.YtkmnalklckmgjaaChecked
import Derived.IntWalk
import Derived.Test.YtkmnalklckmgjaaDb
namespace Go.Proofs.Ytkmnalklckmgjaa
open Go Go.RowKit Go.IntWalk
open Enc (sz cs)
attribute [local irreducible] IntKind.wrap

/-- A place for a cut. -/
def atN (b : List UInt8) (i : Nat) : Nat := if i < b.length then (b.getD i 0).toNat else (i * 31 + b.length * 7) % 256
theorem atN_y {b : List UInt8} {i : Nat} (h : i < b.length) : atN b i = b[i].toNat := by
  unfold atN; rw [if_pos h, List.getD_eq_getElem?_getD, List.getElem?_eq_getElem h]; rfl
theorem atN_n {b : List UInt8} {i : Nat} (h : ¬ i < b.length) : atN b i = (i * 31 + b.length * 7) % 256 := if_neg h
theorem dgC_len {b : List UInt8} : (dgC b).length ≤ 261 := by
  have h1 := ptP_len 2 (smC (blC (nwC b) 6).2).1
  have h2 := ptM_len (mtC (blC (nwC b) 6).2).1
  by_cases h : (blC (nwC b) 6).1 = 0
  · rw [dgC_y h]; omega
  · rw [dgC_n h]
    generalize ptM (mtC (blC (nwC b) 6).2).1 = x at *
    generalize (mtC (blC (nwC b) 6).2).2 = c
    by_cases h0 : x.length = 0
    · rw [bdC_e h0]; simp only; omega
    · by_cases c0 : (blC c 5).1 = 0
      · rw [bdC_0 h0 c0]; simp only [List.length_set]; omega
      · by_cases c1 : (blC c 5).1 = 1
        · rw [bdC_1 h0 c1]; simp only [List.length_append, List.length_singleton]; omega
        · by_cases c2 : (blC c 5).1 = 2
          · rw [bdC_2 h0 c2]; simp only [List.length_take]; omega
          · rw [bdC_3 h0 c0 c1 c2]; simp only; omega
attribute [local irreducible] gU gT gS gP gM ptP ptM ptS crcN dgC anC nwC

set_option maxRecDepth 100000 in
theorem tx4 {b : List UInt8} (hb : b.length ≤ 140737488355327 := by first | assumption | omega | (simp; done) | (simp; omega)) : T 4 [aE b] [vB (decide (1048576 < (b.length : Int)))] [none] := by
  refine w_call md [] Try.func4 rfl ?_
  repeat' ((conv => whnf); (first | refine k0 ?_ | refine jA fun _ => ?_ | refine jB fun _ => ?_ | refine kC (fun _ => ?_) fun _ => ?_ | refine jS ?_ | refine jI ?_ | refine jD ?_ | refine ⟨snc, _, snr, ?_⟩ | refine ⟨⟨Nat.le_refl _, rfl⟩, [], rfl, ?_⟩ | refine And.intro ⟨rfl, rfl, by decide, rfl⟩ ?_ | refine jP ?_ | refine jO ?_ | refine jX ?_ | refine jb jr ?_ | refine jb ofs ?_ | refine ko jc ?_ | refine ko jp ?_ | refine jM ?_ | refine kr ?_ | refine ko rfl ?_ | refine And.intro (cs_shal _) ?_ | refine And.intro (rfl : List.all _ _ = true) ?_ | refine And.intro ⟨rfl, (rfl : List.all _ _ = true)⟩ ?_ | exact ⟨rfl, rfl⟩ | exact jV | fail))
  all_goals first | exact ⟨by rw [decide_eq_true (by omega)], rfl⟩ | exact ⟨by rw [decide_eq_false (by omega)], rfl⟩

theorem cx4 {P : Program} {X : FuncId → List Arg → List (Bool × List Cell) → List (Option (List Cell)) → Prop} {a : List Arg} {Q : List (Bool × List Cell) → List (Option (List Cell)) → Prop} (h : ∃ b vals outs, a = b ∧ D P X (.call 4 b vals outs) ∧ Q vals outs) : CallS P X 4 a Q := ⟨h⟩

set_option maxRecDepth 100000 in
theorem tx13 {b : List UInt8} {i : Nat} (hb : b.length ≤ 1048576 := by first | assumption | omega | (simp; done) | (simp; omega)) (hi : i ≤ 1000 := by first | assumption | omega | (simp; done) | (simp; omega)) : T 13 [aE b, aI i] [vI (atN b i)] [none, none] := by
  refine w_call md [] Try.func13 rfl ?_
  by_cases h : i < b.length
  · rw [atN_y h]
    have hu := UInt8.toNat_lt b[i]
    repeat' ((conv => whnf); (first | refine k0 ?_ | refine jA fun _ => ?_ | refine jB fun _ => ?_ | refine kC (fun _ => ?_) fun _ => ?_ | refine jS ?_ | refine jI ?_ | refine jD ?_ | refine ⟨snc, _, snr, ?_⟩ | refine ⟨⟨Nat.le_refl _, rfl⟩, [], rfl, ?_⟩ | refine And.intro ⟨rfl, rfl, by decide, rfl⟩ ?_ | refine jP ?_ | refine jO ?_ | refine jX ?_ | refine jb jr ?_ | refine jb ofs ?_ | refine ko jc ?_ | refine ko jp ?_ | refine jM ?_ | refine kr ?_ | refine ko rfl ?_ | refine And.intro (cs_shal _) ?_ | refine And.intro (rfl : List.all _ _ = true) ?_ | refine And.intro ⟨rfl, (rfl : List.all _ _ = true)⟩ ?_ | exact ⟨rfl, rfl⟩ | exact jV | fail))
  · rw [atN_n h]
    repeat' ((conv => whnf); (first | refine And.intro (by decide) (Exists.intro (((i * 31 + b.length * 7) % 256 : Nat) : Int) (And.intro (Int.tmod_eq_emod_of_nonneg (by omega)) ?_)) | refine k0 ?_ | refine jA fun _ => ?_ | refine jB fun _ => ?_ | refine kC (fun _ => ?_) fun _ => ?_ | refine jS ?_ | refine jI ?_ | refine jD ?_ | refine ⟨snc, _, snr, ?_⟩ | refine ⟨⟨Nat.le_refl _, rfl⟩, [], rfl, ?_⟩ | refine And.intro ⟨rfl, rfl, by decide, rfl⟩ ?_ | refine jP ?_ | refine jO ?_ | refine jX ?_ | refine jb jr ?_ | refine jb ofs ?_ | refine ko jc ?_ | refine ko jp ?_ | refine jM ?_ | refine kr ?_ | refine ko rfl ?_ | refine And.intro (cs_shal _) ?_ | refine And.intro (rfl : List.all _ _ = true) ?_ | refine And.intro ⟨rfl, (rfl : List.all _ _ = true)⟩ ?_ | exact ⟨rfl, rfl⟩ | exact jV | fail))

theorem cx13 {P : Program} {X : FuncId → List Arg → List (Bool × List Cell) → List (Option (List Cell)) → Prop} {a : List Arg} {Q : List (Bool × List Cell) → List (Option (List Cell)) → Prop} (h : ∃ b vals outs, a = b ∧ D P X (.call 13 b vals outs) ∧ Q vals outs) : CallS P X 13 a Q := ⟨h⟩

set_option maxRecDepth 100000 in
theorem tx11 {b : List UInt8} (hb : b.length ≤ 10000000 := by first | assumption | omega | (simp; done) | (simp; omega)) : T 11 [aE b, aE b] [vB true] [none, none] := by
  refine w_call md [] Try.func11 rfl ?_
  repeat' ((conv => whnf); (first | refine k0 ?_ | refine jA fun _ => ?_ | refine jB fun _ => ?_ | refine kC (fun _ => ?_) fun _ => ?_ | refine jS ?_ | refine jI ?_ | refine jD ?_ | refine ⟨snc, _, snr, ?_⟩ | refine ⟨⟨Nat.le_refl _, rfl⟩, [], rfl, ?_⟩ | refine And.intro ⟨rfl, rfl, by decide, rfl⟩ ?_ | refine jP ?_ | refine jO ?_ | refine jX ?_ | refine jb jr ?_ | refine jb ofs ?_ | refine ko jc ?_ | refine ko jp ?_ | refine jM ?_ | refine kr ?_ | refine ko rfl ?_ | refine And.intro (cs_shal _) ?_ | refine And.intro (rfl : List.all _ _ = true) ?_ | refine And.intro ⟨rfl, (rfl : List.all _ _ = true)⟩ ?_ | exact ⟨rfl, rfl⟩ | exact jV | fail))
  conv => whnf
  refine loopk (ι := Nat) (fun i => i ≤ b.length) (fun i => b.length - i) (0) [0, 1] (fun i => [(5, .v false [i6 i])]) [none, none] ?_
  refine ⟨by omega, ?_, fun i hi => ?_⟩
  · exact jw []
  · repeat' ((conv => whnf); (first | refine k0 ?_ | refine jS ?_ | refine jI ?_ | refine jD ?_ | refine ⟨snc, _, snr, ?_⟩ | refine ⟨⟨Nat.le_refl _, rfl⟩, [], rfl, ?_⟩ | refine And.intro ⟨rfl, rfl, by decide, rfl⟩ ?_ | refine jP ?_ | refine jO ?_ | refine jX ?_ | refine jb jr ?_ | refine jb ofs ?_ | refine ko jc ?_ | refine ko jp ?_ | refine jM ?_ | refine kr ?_ | refine ko rfl ?_ | refine And.intro (cs_shal _) ?_ | refine And.intro (rfl : List.all _ _ = true) ?_ | refine And.intro ⟨rfl, (rfl : List.all _ _ = true)⟩ ?_ | exact ⟨rfl, rfl⟩ | exact jV | fail))
    conv => whnf
    refine ⟨fun hlt => ?_, fun hge => ?_⟩
    · have hi2 : i < b.length := by omega
      repeat' ((conv => whnf); (first | refine k0 ?_ | refine jA fun _ => ?_ | refine jB fun _ => ?_ | refine kC (fun _ => ?_) fun _ => ?_ | refine jS ?_ | refine jI ?_ | refine jD ?_ | refine ⟨snc, _, snr, ?_⟩ | refine ⟨⟨Nat.le_refl _, rfl⟩, [], rfl, ?_⟩ | refine And.intro ⟨rfl, rfl, by decide, rfl⟩ ?_ | refine jP ?_ | refine jO ?_ | refine jX ?_ | refine jb jr ?_ | refine jb ofs ?_ | refine ko jc ?_ | refine ko jp ?_ | refine jM ?_ | refine kr ?_ | refine ko rfl ?_ | refine And.intro (cs_shal _) ?_ | refine And.intro (rfl : List.all _ _ = true) ?_ | refine And.intro ⟨rfl, (rfl : List.all _ _ = true)⟩ ?_ | exact ⟨rfl, rfl⟩ | exact jV | fail))
      refine ⟨⟨i + 1, by omega⟩, by simp only; omega, ?_⟩
      exact jw []
    · obtain rfl : i = b.length := by omega
      repeat' ((conv => whnf); (first | refine k0 ?_ | refine jA fun _ => ?_ | refine jB fun _ => ?_ | refine kC (fun _ => ?_) fun _ => ?_ | refine jS ?_ | refine jI ?_ | refine jD ?_ | refine ⟨snc, _, snr, ?_⟩ | refine ⟨⟨Nat.le_refl _, rfl⟩, [], rfl, ?_⟩ | refine And.intro ⟨rfl, rfl, by decide, rfl⟩ ?_ | refine jP ?_ | refine jO ?_ | refine jX ?_ | refine jb jr ?_ | refine jb ofs ?_ | refine ko jc ?_ | refine ko jp ?_ | refine jM ?_ | refine kr ?_ | refine ko rfl ?_ | refine And.intro (cs_shal _) ?_ | refine And.intro (rfl : List.all _ _ = true) ?_ | refine And.intro ⟨rfl, (rfl : List.all _ _ = true)⟩ ?_ | exact ⟨rfl, rfl⟩ | exact jV | fail))

theorem cx11 {P : Program} {X : FuncId → List Arg → List (Bool × List Cell) → List (Option (List Cell)) → Prop} {a : List Arg} {Q : List (Bool × List Cell) → List (Option (List Cell)) → Prop} (h : ∃ b vals outs, a = b ∧ D P X (.call 11 b vals outs) ∧ Q vals outs) : CallS P X 11 a Q := ⟨h⟩

theorem eqM' (a b c d : Int) : eqStruct Try.prog 25 [i6 a, i6 b] [i6 c, i6 d] = (match (some (a == c) : Option Bool) with | some true => (match (some (b == d) : Option Bool) with | some true => some true | some false => some false | none => none) | some false => some false | none => none) := by kernel_rfl
theorem eqM_y {a b : Int} : eqStruct Try.prog 25 [i6 a, i6 b] [i6 a, i6 b] = some true := by
  rw [eqM', beq_self_eq_true, beq_self_eq_true]
theorem csR {xs : List UInt8} {k : Nat} (h : k ≤ xs.length) : roifyL (((cs true xs).drop (0 + 0 * 1)).take ((k - 0) * 1)) = cs false (xs.take k) := by
  have := cs_drop0 (α := UInt8) (o := true) (xs := xs) (show 0 + k ≤ xs.length by omega)
  have e : ((cs true xs).drop (0 + 0 * 1)).take ((k - 0) * 1) = cs true (xs.take k) := by simpa using this
  rw [e, cs_ro]
theorem snR {xs : List UInt8} {k : Nat} (h : k ≤ xs.length) : (0 + 0 * 1) + (k - 0) * 1 ≤ (cs true xs).length ∧ (((cs true xs).drop (0 + 0 * 1)).take ((k - 0) * 1)).all Cell.shal = true := by
  have := cs_drop0 (α := UInt8) (o := true) (xs := xs) (show 0 + k ≤ xs.length by omega)
  have e : ((cs true xs).drop (0 + 0 * 1)).take ((k - 0) * 1) = cs true (xs.take k) := by simpa using this
  exact ⟨by rw [cs_len]; show _ ≤ xs.length * 1; omega, by rw [e]; exact cs_shal _⟩

set_option maxHeartbeats 2000000 in
set_option maxRecDepth 100000 in
theorem tx3 {b : List UInt8} (hb : b.length ≤ 140737488355327 := by first | assumption | omega | (simp; done) | (simp; omega)) : T 3 [aE b] [vB true] [none] := by
  refine w_call md [] Try.func3 rfl ?_
  by_cases hz : 1048576 < b.length
  · have hB : T 4 [aE b] [vB true] [none] := by
      have h := tx4 (b := b)
      rwa [decide_eq_true (by omega)] at h
    repeat' ((conv => whnf); (first | (apply cx4; refine kl (hB) ?_) | refine k0 ?_ | refine jA fun _ => ?_ | refine jB fun _ => ?_ | refine kC (fun _ => ?_) fun _ => ?_ | refine jS ?_ | refine jI ?_ | (apply cx4; refine kl tx4 ?_) | (apply cx5; refine kl tx5 ?_) | (apply cx6; refine kl tx6 ?_) | (apply cx7; refine kl tx7 ?_) | (apply cx8; refine kl tx8 ?_) | (apply cx9; refine kl tx9 ?_) | (apply cx10; refine kl tx10 ?_) | (apply cx11; refine kl tx11 ?_) | (apply cx12; refine kl tx12 ?_) | (apply cx13; refine kl tx13 ?_) | refine jD ?_ | refine ⟨snc, _, snr, ?_⟩ | refine ⟨⟨Nat.le_refl _, rfl⟩, [], rfl, ?_⟩ | refine And.intro ⟨rfl, rfl, by decide, rfl⟩ ?_ | refine jP ?_ | refine jO ?_ | refine jX ?_ | refine jb jr ?_ | refine jb ofs ?_ | refine ko jc ?_ | refine ko jp ?_ | refine jM ?_ | refine kr ?_ | refine ko rfl ?_ | refine And.intro (cs_shal _) ?_ | refine And.intro (rfl : List.all _ _ = true) ?_ | refine And.intro ⟨rfl, (rfl : List.all _ _ = true)⟩ ?_ | exact ⟨rfl, rfl⟩ | exact jV | fail))
  · have hB : T 4 [aE b] [vB false] [none] := by
      have h := tx4 (b := b)
      rwa [decide_eq_false (by omega)] at h
    have hd := dgC_len (b := b)
    have hl := ptM_len (anC (nwC b)).1
    have hl2 := ptM_len (gM (dgC b)).1
    by_cases hM : metaOk (anC (nwC b)).1 = true
    · have hg := gM_pt hM
      have hne : ¬ (ptM (anC (nwC b)).1).length = 0 := fun e => by
        have e0 := List.length_eq_zero_iff.1 e
        have := gM_nil
        rw [← e0, hg] at this; cases this
      have hG : T 8 [aE (ptM (anC (nwC b)).1)] [(true, metC (anC (nwC b)).1), vB true] [none] := by
        have h := tx8 (b := ptM (anC (nwC b)).1) (by omega)
        rw [hg] at h; exact h
      have hk := Nat.mod_lt (atN b 2) (Nat.pos_of_ne_zero hne)
      obtain ⟨k, hkk⟩ : ∃ k : Nat, atN b 2 % (ptM (anC (nwC b)).1).length = k := ⟨_, rfl⟩
      rw [hkk] at hk
      have hr : Int.tmod ((atN b 2 : Nat) : Int) (((ptM (anC (nwC b)).1).length : Nat) : Int) = (k : Int) := by
        rw [Int.tmod_eq_emod_of_nonneg (by omega), ← hkk]; rfl
      have hc := gM_cut hM hk
      by_cases hD : (gM (dgC b)).2 = true
      · have hS : T 11 [aE (ptM (gM (dgC b)).1), aE (dgC b)] [vB true] [none, none] := by
          rw [(gM_ok hD).2]; exact tx11 (b := dgC b) (by omega)
        have hK := (gM_ok hD).1
        by_cases ck : k = 0
        · have hC : T 8 [aE ([] : List UInt8)] [(true, metC (gM []).1), vB false] [none] := by
            have h := tx8 (b := []) (by decide)
            rw [gM_nil] at h; exact h
          repeat' ((conv => whnf); (first | (apply cx4; refine kl (hB) ?_) | (apply cx5; refine kl (tx5 (b := b)) ?_) | (apply cx7; refine kl (tx7 (b := b)) ?_) | (apply cx6; refine kl (tx6 (m := (anC (nwC b)).1)) ?_) | (apply cx8; refine kl (hG) ?_) | (apply cx8; refine kl (hC) ?_) | (apply cx8; refine kl (tx8 (b := dgC b)) ?_) | (apply cx9; refine kl (tx9 (b := dgC b)) ?_) | (apply cx11; refine kl (hS) ?_) | refine ko eqM_y ?_ | refine And.intro (by omega) (Exists.intro (k : Int) (And.intro hr ?_)) | refine Exists.intro _ (Exists.intro _ (Exists.intro _ (And.intro rfl (And.intro bndN (And.intro (sl_r0 ck) ?_))))) | refine k0 ?_ | refine jA fun _ => ?_ | refine jB fun _ => ?_ | refine kC (fun _ => ?_) fun _ => ?_ | refine jS ?_ | refine jI ?_ | (apply cx4; refine kl tx4 ?_) | (apply cx5; refine kl tx5 ?_) | (apply cx6; refine kl tx6 ?_) | (apply cx7; refine kl tx7 ?_) | (apply cx8; refine kl tx8 ?_) | (apply cx9; refine kl tx9 ?_) | (apply cx10; refine kl tx10 ?_) | (apply cx11; refine kl tx11 ?_) | (apply cx12; refine kl tx12 ?_) | (apply cx13; refine kl tx13 ?_) | refine jD ?_ | refine ⟨snc, _, snr, ?_⟩ | refine ⟨⟨Nat.le_refl _, rfl⟩, [], rfl, ?_⟩ | refine And.intro ⟨rfl, rfl, by decide, rfl⟩ ?_ | refine jP ?_ | refine jO ?_ | refine jX ?_ | refine jb jr ?_ | refine jb ofs ?_ | refine ko jc ?_ | refine ko jp ?_ | refine jM ?_ | refine kr ?_ | refine ko rfl ?_ | refine And.intro (cs_shal _) ?_ | refine And.intro (rfl : List.all _ _ = true) ?_ | refine And.intro ⟨rfl, (rfl : List.all _ _ = true)⟩ ?_ | exact ⟨rfl, rfl⟩ | exact jV | fail))
        · have hC : T 8 [.val false [.sl false k 1 (cs false ((ptM (anC (nwC b)).1).take k))]] [(true, metC (gM ((ptM (anC (nwC b)).1).take k)).1), vB false] [none] := by
            have h : T 8 [.val false [.sl false ((ptM (anC (nwC b)).1).take k).length 1 (cs false ((ptM (anC (nwC b)).1).take k))]] [(true, metC (gM ((ptM (anC (nwC b)).1).take k)).1), vB (gM ((ptM (anC (nwC b)).1).take k)).2] [none] := tx8 (b := (ptM (anC (nwC b)).1).take k) (by rw [List.length_take]; omega)
            rw [hc, ltk (Nat.le_of_lt hk)] at h; exact h
          repeat' ((conv => whnf); (first | (apply cx4; refine kl (hB) ?_) | (apply cx5; refine kl (tx5 (b := b)) ?_) | (apply cx7; refine kl (tx7 (b := b)) ?_) | (apply cx6; refine kl (tx6 (m := (anC (nwC b)).1)) ?_) | (apply cx8; refine kl (hG) ?_) | (apply cx8; refine kl (hC) ?_) | (apply cx8; refine kl (tx8 (b := dgC b)) ?_) | (apply cx9; refine kl (tx9 (b := dgC b)) ?_) | (apply cx11; refine kl (hS) ?_) | refine ko eqM_y ?_ | refine And.intro (by omega) (Exists.intro (k : Int) (And.intro hr ?_)) | refine Exists.intro _ (Exists.intro _ (Exists.intro _ (And.intro rfl (And.intro bndN (And.intro (sl_rk (by omega) ck) ?_))))) | refine ⟨snR (xs := ptM (anC (nwC b)).1) (k := k) (by omega), _, csR (xs := ptM (anC (nwC b)).1) (k := k) (by omega), ?_⟩ | refine k0 ?_ | refine jA fun _ => ?_ | refine jB fun _ => ?_ | refine kC (fun _ => ?_) fun _ => ?_ | refine jS ?_ | refine jI ?_ | (apply cx4; refine kl tx4 ?_) | (apply cx5; refine kl tx5 ?_) | (apply cx6; refine kl tx6 ?_) | (apply cx7; refine kl tx7 ?_) | (apply cx8; refine kl tx8 ?_) | (apply cx9; refine kl tx9 ?_) | (apply cx10; refine kl tx10 ?_) | (apply cx11; refine kl tx11 ?_) | (apply cx12; refine kl tx12 ?_) | (apply cx13; refine kl tx13 ?_) | refine jD ?_ | refine ⟨snc, _, snr, ?_⟩ | refine ⟨⟨Nat.le_refl _, rfl⟩, [], rfl, ?_⟩ | refine And.intro ⟨rfl, rfl, by decide, rfl⟩ ?_ | refine jP ?_ | refine jO ?_ | refine jX ?_ | refine jb jr ?_ | refine jb ofs ?_ | refine ko jc ?_ | refine ko jp ?_ | refine jM ?_ | refine kr ?_ | refine ko rfl ?_ | refine And.intro (cs_shal _) ?_ | refine And.intro (rfl : List.all _ _ = true) ?_ | refine And.intro ⟨rfl, (rfl : List.all _ _ = true)⟩ ?_ | exact ⟨rfl, rfl⟩ | exact jV | fail))
      · have hDf : (gM (dgC b)).2 = false := by cases h : (gM (dgC b)).2 with
          | true => exact absurd h hD
          | false => rfl
        by_cases ck : k = 0
        · have hC : T 8 [aE ([] : List UInt8)] [(true, metC (gM []).1), vB false] [none] := by
            have h := tx8 (b := []) (by decide)
            rw [gM_nil] at h; exact h
          repeat' ((conv => whnf); (first | (apply cx4; refine kl (hB) ?_) | (apply cx5; refine kl (tx5 (b := b)) ?_) | (apply cx7; refine kl (tx7 (b := b)) ?_) | (apply cx6; refine kl (tx6 (m := (anC (nwC b)).1)) ?_) | (apply cx8; refine kl (hG) ?_) | (apply cx8; refine kl (hC) ?_) | (apply cx8; refine kl (tx8 (b := dgC b)) ?_) | (apply cx9; refine kl (tx9 (b := dgC b)) ?_) | refine ko eqM_y ?_ | refine And.intro (by omega) (Exists.intro (k : Int) (And.intro hr ?_)) | refine Exists.intro _ (Exists.intro _ (Exists.intro _ (And.intro rfl (And.intro bndN (And.intro (sl_r0 ck) ?_))))) | refine k0 ?_ | refine jA fun _ => ?_ | refine jB fun _ => ?_ | refine kC (fun _ => ?_) fun _ => ?_ | refine jS ?_ | refine jI ?_ | (apply cx4; refine kl tx4 ?_) | (apply cx5; refine kl tx5 ?_) | (apply cx6; refine kl tx6 ?_) | (apply cx7; refine kl tx7 ?_) | (apply cx8; refine kl tx8 ?_) | (apply cx9; refine kl tx9 ?_) | (apply cx10; refine kl tx10 ?_) | (apply cx11; refine kl tx11 ?_) | (apply cx12; refine kl tx12 ?_) | (apply cx13; refine kl tx13 ?_) | refine jD ?_ | refine ⟨snc, _, snr, ?_⟩ | refine ⟨⟨Nat.le_refl _, rfl⟩, [], rfl, ?_⟩ | refine And.intro ⟨rfl, rfl, by decide, rfl⟩ ?_ | refine jP ?_ | refine jO ?_ | refine jX ?_ | refine jb jr ?_ | refine jb ofs ?_ | refine ko jc ?_ | refine ko jp ?_ | refine jM ?_ | refine kr ?_ | refine ko rfl ?_ | refine And.intro (cs_shal _) ?_ | refine And.intro (rfl : List.all _ _ = true) ?_ | refine And.intro ⟨rfl, (rfl : List.all _ _ = true)⟩ ?_ | exact ⟨rfl, rfl⟩ | exact jV | fail))
        · have hC : T 8 [.val false [.sl false k 1 (cs false ((ptM (anC (nwC b)).1).take k))]] [(true, metC (gM ((ptM (anC (nwC b)).1).take k)).1), vB false] [none] := by
            have h : T 8 [.val false [.sl false ((ptM (anC (nwC b)).1).take k).length 1 (cs false ((ptM (anC (nwC b)).1).take k))]] [(true, metC (gM ((ptM (anC (nwC b)).1).take k)).1), vB (gM ((ptM (anC (nwC b)).1).take k)).2] [none] := tx8 (b := (ptM (anC (nwC b)).1).take k) (by rw [List.length_take]; omega)
            rw [hc, ltk (Nat.le_of_lt hk)] at h; exact h
          repeat' ((conv => whnf); (first | (apply cx4; refine kl (hB) ?_) | (apply cx5; refine kl (tx5 (b := b)) ?_) | (apply cx7; refine kl (tx7 (b := b)) ?_) | (apply cx6; refine kl (tx6 (m := (anC (nwC b)).1)) ?_) | (apply cx8; refine kl (hG) ?_) | (apply cx8; refine kl (hC) ?_) | (apply cx8; refine kl (tx8 (b := dgC b)) ?_) | (apply cx9; refine kl (tx9 (b := dgC b)) ?_) | refine ko eqM_y ?_ | refine And.intro (by omega) (Exists.intro (k : Int) (And.intro hr ?_)) | refine Exists.intro _ (Exists.intro _ (Exists.intro _ (And.intro rfl (And.intro bndN (And.intro (sl_rk (by omega) ck) ?_))))) | refine ⟨snR (xs := ptM (anC (nwC b)).1) (k := k) (by omega), _, csR (xs := ptM (anC (nwC b)).1) (k := k) (by omega), ?_⟩ | refine k0 ?_ | refine jA fun _ => ?_ | refine jB fun _ => ?_ | refine kC (fun _ => ?_) fun _ => ?_ | refine jS ?_ | refine jI ?_ | (apply cx4; refine kl tx4 ?_) | (apply cx5; refine kl tx5 ?_) | (apply cx6; refine kl tx6 ?_) | (apply cx7; refine kl tx7 ?_) | (apply cx8; refine kl tx8 ?_) | (apply cx9; refine kl tx9 ?_) | (apply cx10; refine kl tx10 ?_) | (apply cx11; refine kl tx11 ?_) | (apply cx12; refine kl tx12 ?_) | (apply cx13; refine kl tx13 ?_) | refine jD ?_ | refine ⟨snc, _, snr, ?_⟩ | refine ⟨⟨Nat.le_refl _, rfl⟩, [], rfl, ?_⟩ | refine And.intro ⟨rfl, rfl, by decide, rfl⟩ ?_ | refine jP ?_ | refine jO ?_ | refine jX ?_ | refine jb jr ?_ | refine jb ofs ?_ | refine ko jc ?_ | refine ko jp ?_ | refine jM ?_ | refine kr ?_ | refine ko rfl ?_ | refine And.intro (cs_shal _) ?_ | refine And.intro (rfl : List.all _ _ = true) ?_ | refine And.intro ⟨rfl, (rfl : List.all _ _ = true)⟩ ?_ | exact ⟨rfl, rfl⟩ | exact jV | fail))
    · have hMf : metaOk (anC (nwC b)).1 = false := by cases h : metaOk (anC (nwC b)).1 with
        | true => exact absurd h hM
        | false => rfl
      have hne : (ptM (anC (nwC b)).1).length = 0 := by
        have e : ptM (anC (nwC b)).1 = [] := by unfold ptM; rw [if_neg hM]
        rw [e]; rfl
      by_cases hD : (gM (dgC b)).2 = true
      · have hS : T 11 [aE (ptM (gM (dgC b)).1), aE (dgC b)] [vB true] [none, none] := by
          rw [(gM_ok hD).2]; exact tx11 (b := dgC b) (by omega)
        have hK := (gM_ok hD).1
        repeat' ((conv => whnf); (first | (apply cx4; refine kl (hB) ?_) | (apply cx5; refine kl (tx5 (b := b)) ?_) | (apply cx7; refine kl (tx7 (b := b)) ?_) | (apply cx6; refine kl (tx6 (m := (anC (nwC b)).1)) ?_) | (apply cx8; refine kl (tx8 (b := dgC b)) ?_) | (apply cx9; refine kl (tx9 (b := dgC b)) ?_) | (apply cx11; refine kl (hS) ?_) | refine k0 ?_ | refine jA fun _ => ?_ | refine jB fun _ => ?_ | refine kC (fun _ => ?_) fun _ => ?_ | refine jS ?_ | refine jI ?_ | (apply cx4; refine kl tx4 ?_) | (apply cx5; refine kl tx5 ?_) | (apply cx6; refine kl tx6 ?_) | (apply cx7; refine kl tx7 ?_) | (apply cx8; refine kl tx8 ?_) | (apply cx9; refine kl tx9 ?_) | (apply cx10; refine kl tx10 ?_) | (apply cx11; refine kl tx11 ?_) | (apply cx12; refine kl tx12 ?_) | (apply cx13; refine kl tx13 ?_) | refine jD ?_ | refine ⟨snc, _, snr, ?_⟩ | refine ⟨⟨Nat.le_refl _, rfl⟩, [], rfl, ?_⟩ | refine And.intro ⟨rfl, rfl, by decide, rfl⟩ ?_ | refine jP ?_ | refine jO ?_ | refine jX ?_ | refine jb jr ?_ | refine jb ofs ?_ | refine ko jc ?_ | refine ko jp ?_ | refine jM ?_ | refine kr ?_ | refine ko rfl ?_ | refine And.intro (cs_shal _) ?_ | refine And.intro (rfl : List.all _ _ = true) ?_ | refine And.intro ⟨rfl, (rfl : List.all _ _ = true)⟩ ?_ | exact ⟨rfl, rfl⟩ | exact jV | fail))
      · have hDf : (gM (dgC b)).2 = false := by cases h : (gM (dgC b)).2 with
          | true => exact absurd h hD
          | false => rfl
        repeat' ((conv => whnf); (first | (apply cx4; refine kl (hB) ?_) | (apply cx5; refine kl (tx5 (b := b)) ?_) | (apply cx7; refine kl (tx7 (b := b)) ?_) | (apply cx6; refine kl (tx6 (m := (anC (nwC b)).1)) ?_) | (apply cx8; refine kl (tx8 (b := dgC b)) ?_) | (apply cx9; refine kl (tx9 (b := dgC b)) ?_) | refine k0 ?_ | refine jA fun _ => ?_ | refine jB fun _ => ?_ | refine kC (fun _ => ?_) fun _ => ?_ | refine jS ?_ | refine jI ?_ | (apply cx4; refine kl tx4 ?_) | (apply cx5; refine kl tx5 ?_) | (apply cx6; refine kl tx6 ?_) | (apply cx7; refine kl tx7 ?_) | (apply cx8; refine kl tx8 ?_) | (apply cx9; refine kl tx9 ?_) | (apply cx10; refine kl tx10 ?_) | (apply cx11; refine kl tx11 ?_) | (apply cx12; refine kl tx12 ?_) | (apply cx13; refine kl tx13 ?_) | refine jD ?_ | refine ⟨snc, _, snr, ?_⟩ | refine ⟨⟨Nat.le_refl _, rfl⟩, [], rfl, ?_⟩ | refine And.intro ⟨rfl, rfl, by decide, rfl⟩ ?_ | refine jP ?_ | refine jO ?_ | refine jX ?_ | refine jb jr ?_ | refine jb ofs ?_ | refine ko jc ?_ | refine ko jp ?_ | refine jM ?_ | refine kr ?_ | refine ko rfl ?_ | refine And.intro (cs_shal _) ?_ | refine And.intro (rfl : List.all _ _ = true) ?_ | refine And.intro ⟨rfl, (rfl : List.all _ _ = true)⟩ ?_ | exact ⟨rfl, rfl⟩ | exact jV | fail))

theorem cx3 {P : Program} {X : FuncId → List Arg → List (Bool × List Cell) → List (Option (List Cell)) → Prop} {a : List Arg} {Q : List (Bool × List Cell) → List (Option (List Cell)) → Prop} (h : ∃ b vals outs, a = b ∧ D P X (.call 3 b vals outs) ∧ Q vals outs) : CallS P X 3 a Q := ⟨h⟩

end Go.Proofs.Ytkmnalklckmgjaa
