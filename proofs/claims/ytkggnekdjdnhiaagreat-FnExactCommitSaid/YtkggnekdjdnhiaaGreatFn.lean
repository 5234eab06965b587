/- Functions of the program, each with what it gives back. -/
import Derived.Test.YtkggnekdjdnhiaaGreatKe
import Derived.Test.YtkggnekdjdnhiaaGreatChecked
import Derived.IntWalk
import Derived.Test.YtkggnekdjdnhiaaGreatFm
namespace Go.Proofs.YtkggnekdjdnhiaaGreat
open Go Go.RowKit Go.IntWalk
open Enc (sz cs)
attribute [local irreducible] IntKind.wrap

attribute [local irreducible] gU gT gS gP gM ptP ptM ptS crcN rdS bdN
/-- A number, a text that is read, where nothing was wrong so far: it, where it goes on, is something wrong now? -/
def nmR (b : List UInt8) (p : Nat) (bad : Bool) : Nat × Nat × Bool := if bad = false ∧ (gU b p).2.2 = true then ((gU b p).1, (gU b p).2.1, false) else (0, p, true)
def txR (b : List UInt8) (p : Nat) (bad : Bool) : List UInt8 × Nat × Bool := if bad = false ∧ (gT b p).2.2 = true then ((gT b p).1, (gT b p).2.1, false) else ([], p, true)
theorem nmR_yes {b : List UInt8} {p : Nat} (h : (gU b p).2.2 = true) : nmR b p false = ((gU b p).1, (gU b p).2.1, false) := if_pos ⟨rfl, h⟩
theorem nmR_no {b : List UInt8} {p : Nat} {bad : Bool} (h : ¬ (bad = false ∧ (gU b p).2.2 = true)) : nmR b p bad = (0, p, true) := if_neg h
theorem txR_yes {b : List UInt8} {p : Nat} (h : (gT b p).2.2 = true) : txR b p false = ((gT b p).1, (gT b p).2.1, false) := if_pos ⟨rfl, h⟩
theorem txR_no {b : List UInt8} {p : Nat} {bad : Bool} (h : ¬ (bad = false ∧ (gT b p).2.2 = true)) : txR b p bad = ([], p, true) := if_neg h
abbrev aR (b : List UInt8) (p : Nat) (bad : Bool) : Arg := .own true 0 0 [slE false b, i6 (p : Nat), b1 bad]
abbrev oR (b : List UInt8) (p : Nat) (bad : Bool) : Option (List Cell) := some [slE false b, i6 (p : Nat), b1 bad]

set_option maxRecDepth 100000 in
theorem tx172 {b : List UInt8} {p : Nat} {bad : Bool} (hb : b.length ≤ 1000 := by first | assumption | omega | (simp; done) | (simp; omega)) (hp : p ≤ 1000000 := by first | assumption | omega | (simp; done) | (simp; omega)) : T 172 [aR b p bad] [vI (nmR b p bad).1] [oR b (nmR b p bad).2.1 (nmR b p bad).2.2] := by
  refine w_call md [] Tryz.func172 rfl ?_
  cases bad
  all_goals repeat' ((conv => whnf); (first | (apply cx136; refine kl (tx136 (b := b) (p := p)) ?_) | refine k0 ?_ | refine jA fun _ => ?_ | refine jB fun _ => ?_ | refine kC (fun _ => ?_) fun _ => ?_ | (apply cx136; refine kl tx136 ?_) | refine jst ?_ | exact ⟨rfl, rfl⟩ | exact jV | fail))
  all_goals first
    | exact ⟨by rw [nmR_yes ‹_›], by rw [nmR_yes ‹_›]⟩
    | exact ⟨by rw [nmR_no (by simp [*])] <;> rfl, by rw [nmR_no (by simp [*])] <;> rfl⟩

theorem cx172 {P : Program} {X : FuncId → List Arg → List (Bool × List Cell) → List (Option (List Cell)) → Prop} {a : List Arg} {Q : List (Bool × List Cell) → List (Option (List Cell)) → Prop} (h : ∃ b vals outs, a = b ∧ D P X (.call 172 b vals outs) ∧ Q vals outs) : CallS P X 172 a Q := ⟨h⟩

set_option maxRecDepth 100000 in
theorem tx173 {b : List UInt8} {p : Nat} {bad : Bool} (hb : b.length ≤ 1000 := by first | assumption | omega | (simp; done) | (simp; omega)) (hp : p ≤ 1000000 := by first | assumption | omega | (simp; done) | (simp; omega)) : T 173 [aR b p bad] [vS (sb (txR b p bad).1)] [oR b (txR b p bad).2.1 (txR b p bad).2.2] := by
  refine w_call md [] Tryz.func173 rfl ?_
  cases bad
  all_goals repeat' ((conv => whnf); (first | (apply cx157; refine kl (tx157 (b := b) (p := p)) ?_) | refine k0 ?_ | refine jA fun _ => ?_ | refine jB fun _ => ?_ | refine kC (fun _ => ?_) fun _ => ?_ | (apply cx157; refine kl tx157 ?_) | refine jst ?_ | exact ⟨rfl, rfl⟩ | exact jV | fail))
  all_goals first
    | exact ⟨by rw [txR_yes ‹_›], by rw [txR_yes ‹_›]⟩
    | exact ⟨by rw [txR_no (by simp [*])] <;> rfl, by rw [txR_no (by simp [*])] <;> rfl⟩

theorem cx173 {P : Program} {X : FuncId → List Arg → List (Bool × List Cell) → List (Option (List Cell)) → Prop} {a : List Arg} {Q : List (Bool × List Cell) → List (Option (List Cell)) → Prop} (h : ∃ b vals outs, a = b ∧ D P X (.call 173 b vals outs) ∧ Q vals outs) : CallS P X 173 a Q := ⟨h⟩

set_option maxHeartbeats 2000000 in
set_option maxRecDepth 100000 in
theorem tx159 {b : List UInt8} (hb : b.length ≤ 240 := by first | assumption | omega | (simp; done) | (simp; omega)) : T 159 [aE b] [(true, nodC true (gN b).1), vB (gN b).2] [none] := by
  refine w_call md [[1, 1, 1], []] Tryz.func159 rfl ?_
  have hs0 := gU_small b 0
  have hs1 := gU_small b (gU b 0).2.1
  by_cases hh : (gU b 0).2.2 = true ∧ (gU b (gU b 0).2.1).2.2 = true ∧ (gU b 0).1 ≤ 1 ∧ (gU b (gU b 0).2.1).1 ≤ b.length
  · obtain ⟨h1, h2, h3, h4⟩ := hh
    have hd := hd_ok h1 h2 h3
    have hN1 : T 172 [aR b 0 false] [vI (gU b 0).1] [oR b (gU b 0).2.1 false] := by
      have h := tx172 (b := b) (p := 0) (bad := false)
      rwa [nmR_yes h1] at h
    have hN2 : T 172 [aR b (gU b 0).2.1 false] [vI (gU b (gU b 0).2.1).1] [oR b (gU b (gU b 0).2.1).2.1 false] := by
      have h := tx172 (b := b) (p := (gU b 0).2.1) (bad := false)
      rwa [nmR_yes h2] at h
    by_cases hk : (gU b 0).1 = 1
    · repeat' ((conv => whnf); (first | (apply cx172; refine kl (hN1) ?_) | (apply cx172; refine kl (hN2) ?_) | refine k0 ?_ | refine jA fun _ => ?_ | refine jB fun _ => ?_ | refine kC (fun _ => ?_) fun _ => ?_ | (apply cx172; refine kl tx172 ?_) | (apply cx173; refine kl tx173 ?_) | (apply cx94; refine kl tx94 ?_) | refine jst ?_ | exact ⟨rfl, rfl⟩ | exact jV | fail))
      conv => whnf
      refine loopk (ι := List ByteArray × Nat × Bool) (fun i => zSS i.1 ≤ 500 * i.1.length ∧ i.1.length ≤ (gU b (gU b 0).2.1).1 ∧ (i.2.2 = false → RdK b true (gU b (gU b 0).2.1).1 i.1 i.2.1) ∧ (i.2.2 = true → NoN b)) (fun i => (gU b (gU b 0).2.1).1 + 1 - i.1.length) (([], (gU b (gU b 0).2.1).2.1, false)) [0, 6] (fun i => [(4, .v false [.ptr 2 0]), (2, .v false [.ptr 1 0]), (7, .v false [.ptr 3 0]), (8, .v false [i6 i.1.length])]) [none, none, some fun i => some (true, [slE false b, i6 i.2.1, b1 i.2.2]), some fun i => some (true, [b1 true, .ref 4 0 i.1.length 1, .ref 5 0 0 1, .ref 6 0 0 1]), some fun i => nE i.1, some fun _ => nE ([] : List ByteArray), some fun _ => nE ([] : List Int)] ?_
      refine ⟨⟨by simp [cnt], by simp, fun _ => by rw [decide_eq_true hk] at hd; exact hd, fun h => (ft h).elim⟩, ?_, fun ⟨ks, p, bad⟩ hi => ?_⟩
      · exact (w_nilN 3 1 [b1 true] [.nil, .nil]).trans ((w_nilN 3 1 [b1 true, .ref 4 0 0 1] [.nil]).trans ((w_nilN 3 1 [b1 true, .ref 4 0 0 1, .ref 5 0 0 1] []).trans (jw [3])))
      · dsimp only at hi ⊢
        obtain ⟨f1, f2, f3, f4⟩ := hi
        cases bad
        · have hR := f3 rfl
          have hpl := hR.ple
          have hl2 := gT_len (b := b) (p := p)
          by_cases hlt : ks.length < (gU b (gU b 0).2.1).1
          · repeat' ((conv => whnf); (first | (apply cx173; refine kl (tx173 (b := b) (p := p) (bad := false)) ?_) | refine jap (apS ?_) | refine k0 ?_ | refine jA fun _ => ?_ | refine jB fun _ => ?_ | refine kC (fun _ => ?_) fun _ => ?_ | (apply cx172; refine kl tx172 ?_) | (apply cx173; refine kl tx173 ?_) | (apply cx94; refine kl tx94 ?_) | refine jst ?_ | exact ⟨rfl, rfl⟩ | exact jV | fail))
            refine ⟨⟨(ks ++ [sb (txR b p false).1], (txR b p false).2.1, (txR b p false).2.2), ?_⟩, by simp; omega, ?_⟩
            · cases ht : (gT b p).2.2
              · rw [txR_no (by rw [ht]; simp)]
                exact ⟨zSS_snoc f1 (by rw [sb_len]; simp), by simp; omega, fun h => (tf h).elim, fun _ => hR.stop hlt ht⟩
              · rw [txR_yes ht]
                exact ⟨zSS_snoc f1 (by rw [sb_len]; dsimp only; omega), by simp; omega, fun _ => hR.step hlt ht, fun h => (ft h).elim⟩
            · exact jw [3]
          · repeat' ((conv => whnf); (first | refine k0 ?_ | refine jA fun _ => ?_ | refine jB fun _ => ?_ | refine kC (fun _ => ?_) fun _ => ?_ | (apply cx172; refine kl tx172 ?_) | (apply cx173; refine kl tx173 ?_) | (apply cx94; refine kl tx94 ?_) | refine jst ?_ | exact ⟨rfl, rfl⟩ | exact jV | fail))
            have hk2 : RdV b (gU b (gU b 0).2.1).1 ks [] p := RdV.beg hR (by omega)
            conv => whnf
            refine loopk (ι := List ByteArray × Nat × Bool) (fun i => zSS i.1 ≤ 500 * i.1.length ∧ i.1.length ≤ (gU b (gU b 0).2.1).1 ∧ (i.2.2 = false → RdV b (gU b (gU b 0).2.1).1 ks i.1 i.2.1) ∧ (i.2.2 = true → NoN b)) (fun i => (gU b (gU b 0).2.1).1 + 1 - i.1.length) (([], p, false)) [0, 6] (fun i => [(4, .v false [.ptr 2 0]), (2, .v false [.ptr 1 0]), (7, .v false [.ptr 3 0]), (10, .v false [i6 i.1.length])]) [none, none, some fun i => some (true, [slE false b, i6 i.2.1, b1 i.2.2]), some fun i => some (true, [b1 true, .ref 4 0 ks.length 1, .ref 5 0 i.1.length 1, .ref 6 0 0 1]), some fun _ => nE ks, some fun i => nE i.1, some fun _ => nE ([] : List Int)] ?_
            refine ⟨⟨by simp [cnt], by simp, fun _ => hk2, fun h => (ft h).elim⟩, ?_, fun ⟨vs, p, bad⟩ hi => ?_⟩
            · exact jw [3]
            · dsimp only at hi ⊢
              obtain ⟨g1, g2, g3, g4⟩ := hi
              have hz : zN ⟨true, ks, vs, []⟩ ≤ 2000000 := by show zSS ks + zSS vs + 0 ≤ 2000000; omega
              cases bad
              · have hR2 := g3 rfl
                have hpl := hR2.ple
                have hl2 := gT_len (b := b) (p := p)
                by_cases hlt : vs.length < (gU b (gU b 0).2.1).1
                · repeat' ((conv => whnf); (first | (apply cx173; refine kl (tx173 (b := b) (p := p) (bad := false)) ?_) | refine jap (apS ?_) | refine k0 ?_ | refine jA fun _ => ?_ | refine jB fun _ => ?_ | refine kC (fun _ => ?_) fun _ => ?_ | (apply cx172; refine kl tx172 ?_) | (apply cx173; refine kl tx173 ?_) | (apply cx94; refine kl tx94 ?_) | refine jst ?_ | exact ⟨rfl, rfl⟩ | exact jV | fail))
                  refine ⟨⟨(vs ++ [sb (txR b p false).1], (txR b p false).2.1, (txR b p false).2.2), ?_⟩, by simp; omega, ?_⟩
                  · cases ht : (gT b p).2.2
                    · rw [txR_no (by rw [ht]; simp)]
                      exact ⟨zSS_snoc g1 (by rw [sb_len]; simp), by simp; omega, fun h => (tf h).elim, fun _ => hR2.stop hlt ht⟩
                    · rw [txR_yes ht]
                      exact ⟨zSS_snoc g1 (by rw [sb_len]; dsimp only; omega), by simp; omega, fun _ => hR2.step hlt ht, fun h => (ft h).elim⟩
                  · exact jw [3]
                · repeat' ((conv => whnf); (first | refine k0 ?_ | refine jA fun _ => ?_ | refine jB fun _ => ?_ | refine kC (fun _ => ?_) fun _ => ?_ | (apply cx172; refine kl tx172 ?_) | (apply cx173; refine kl tx173 ?_) | (apply cx94; refine kl tx94 ?_) | refine jst ?_ | exact ⟨rfl, rfl⟩ | exact jV | fail))
                  have hfin := hR2.fin (by omega)
                  cases hn : nodOk ⟨true, ks, vs, []⟩
                  · have hno : NoN b := fun x hx e => by
                      have e2 := hfin.2 x hx e
                      rw [← e2, nodOk_yes hx] at hn; cases hn
                    conv => whnf
                    refine loopk (ι := Nat) (fun i => i = 0) (fun i => 0) (0) [0, 2, 4, 6, 7, 12] (fun i => []) [none, none, none, none, none, none, none] ?_
                    refine ⟨rfl, ?_, fun i hi => ?_⟩
                    · exact jw [3]
                    · repeat' ((conv => whnf); (first | (apply cx94; refine kl (tx94 (x := ⟨true, ks, vs, []⟩)) ?_) | refine k0 ?_ | refine jA fun _ => ?_ | refine jB fun _ => ?_ | refine kC (fun _ => ?_) fun _ => ?_ | (apply cx172; refine kl tx172 ?_) | (apply cx173; refine kl tx173 ?_) | (apply cx94; refine kl tx94 ?_) | refine jst ?_ | exact ⟨rfl, rfl⟩ | exact jV | fail))
                      all_goals exact ⟨by rw [gN_no hno]; rfl, rfl⟩
                  · by_cases hpe : p = b.length
                    · have hbe : bdN ⟨true, ks, vs, []⟩ = b := by
                        have := hfin.1
                        rwa [hpe, List.drop_length, List.append_nil] at this
                      conv => whnf
                      refine loopk (ι := Nat) (fun i => i = 0) (fun i => 0) (0) [0, 2, 4, 6, 7, 12] (fun i => []) [none, none, none, none, none, none, none] ?_
                      refine ⟨rfl, ?_, fun i hi => ?_⟩
                      · exact jw [3]
                      · repeat' ((conv => whnf); (first | (apply cx94; refine kl (tx94 (x := ⟨true, ks, vs, []⟩)) ?_) | refine k0 ?_ | refine jA fun _ => ?_ | refine jB fun _ => ?_ | refine kC (fun _ => ?_) fun _ => ?_ | (apply cx172; refine kl tx172 ?_) | (apply cx173; refine kl tx173 ?_) | (apply cx94; refine kl tx94 ?_) | refine jst ?_ | exact ⟨rfl, rfl⟩ | exact jV | fail))
                        exact ⟨by rw [gN_yes (nodOk_iff.1 hn) hbe]; rfl, rfl⟩
                    · have hno : NoN b := fun x hx e => by
                        have e2 := hfin.2 x hx e
                        subst e2
                        have e3 := congrArg List.length hfin.1
                        rw [e, List.length_append, List.length_drop] at e3
                        omega
                      conv => whnf
                      refine loopk (ι := Nat) (fun i => i = 0) (fun i => 0) (0) [0, 2, 4, 6, 7, 12] (fun i => []) [none, none, none, none, none, none, none] ?_
                      refine ⟨rfl, ?_, fun i hi => ?_⟩
                      · exact jw [3]
                      · repeat' ((conv => whnf); (first | (apply cx94; refine kl (tx94 (x := ⟨true, ks, vs, []⟩)) ?_) | refine k0 ?_ | refine jA fun _ => ?_ | refine jB fun _ => ?_ | refine kC (fun _ => ?_) fun _ => ?_ | (apply cx172; refine kl tx172 ?_) | (apply cx173; refine kl tx173 ?_) | (apply cx94; refine kl tx94 ?_) | refine jst ?_ | exact ⟨rfl, rfl⟩ | exact jV | fail))
                        all_goals exact ⟨by rw [gN_no hno]; rfl, rfl⟩
              · have hno := g4 rfl
                repeat' ((conv => whnf); (first | refine k0 ?_ | refine jA fun _ => ?_ | refine jB fun _ => ?_ | refine kC (fun _ => ?_) fun _ => ?_ | (apply cx172; refine kl tx172 ?_) | (apply cx173; refine kl tx173 ?_) | (apply cx94; refine kl tx94 ?_) | refine jst ?_ | exact ⟨rfl, rfl⟩ | exact jV | fail))
                all_goals
                  conv => whnf
                  refine loopk (ι := Nat) (fun i => i = 0) (fun i => 0) (0) [0, 2, 4, 6, 7, 12] (fun i => []) [none, none, none, none, none, none, none] ?_
                  refine ⟨rfl, ?_, fun i hi => ?_⟩
                  · exact jw [3]
                  · repeat' ((conv => whnf); (first | refine k0 ?_ | refine jA fun _ => ?_ | refine jB fun _ => ?_ | refine kC (fun _ => ?_) fun _ => ?_ | (apply cx172; refine kl tx172 ?_) | (apply cx173; refine kl tx173 ?_) | (apply cx94; refine kl tx94 ?_) | refine jst ?_ | exact ⟨rfl, rfl⟩ | exact jV | fail))
                    all_goals exact ⟨by rw [gN_no hno]; rfl, rfl⟩
        · have hno := f4 rfl
          repeat' ((conv => whnf); (first | refine k0 ?_ | refine jA fun _ => ?_ | refine jB fun _ => ?_ | refine kC (fun _ => ?_) fun _ => ?_ | (apply cx172; refine kl tx172 ?_) | (apply cx173; refine kl tx173 ?_) | (apply cx94; refine kl tx94 ?_) | refine jst ?_ | exact ⟨rfl, rfl⟩ | exact jV | fail))
          all_goals
            conv => whnf
            refine loopk (ι := Nat) (fun i => i = 0) (fun i => 0) (0) [0, 2, 4, 6, 7, 10] (fun i => []) [none, none, none, none, none, none, none] ?_
            refine ⟨rfl, ?_, fun i hi => ?_⟩
            · exact jw [3]
            · repeat' ((conv => whnf); (first | refine k0 ?_ | refine jA fun _ => ?_ | refine jB fun _ => ?_ | refine kC (fun _ => ?_) fun _ => ?_ | (apply cx172; refine kl tx172 ?_) | (apply cx173; refine kl tx173 ?_) | (apply cx94; refine kl tx94 ?_) | refine jst ?_ | exact ⟨rfl, rfl⟩ | exact jV | fail))
              all_goals
                conv => whnf
                refine loopk (ι := Nat) (fun i => i = 0) (fun i => 0) (0) [0, 2, 4, 6, 7, 12] (fun i => []) [none, none, none, none, none, none, none] ?_
                refine ⟨rfl, ?_, fun i hi => ?_⟩
                · exact jw [3]
                · repeat' ((conv => whnf); (first | refine k0 ?_ | refine jA fun _ => ?_ | refine jB fun _ => ?_ | refine kC (fun _ => ?_) fun _ => ?_ | (apply cx172; refine kl tx172 ?_) | (apply cx173; refine kl tx173 ?_) | (apply cx94; refine kl tx94 ?_) | refine jst ?_ | exact ⟨rfl, rfl⟩ | exact jV | fail))
                  all_goals exact ⟨by rw [gN_no hno]; rfl, rfl⟩
    · repeat' ((conv => whnf); (first | (apply cx172; refine kl (hN1) ?_) | (apply cx172; refine kl (hN2) ?_) | refine k0 ?_ | refine jA fun _ => ?_ | refine jB fun _ => ?_ | refine kC (fun _ => ?_) fun _ => ?_ | (apply cx172; refine kl tx172 ?_) | (apply cx173; refine kl tx173 ?_) | (apply cx94; refine kl tx94 ?_) | refine jst ?_ | exact ⟨rfl, rfl⟩ | exact jV | fail))
      conv => whnf
      refine loopk (ι := List ByteArray × Nat × Bool) (fun i => zSS i.1 ≤ 500 * i.1.length ∧ i.1.length ≤ (gU b (gU b 0).2.1).1 ∧ (i.2.2 = false → RdK b false (gU b (gU b 0).2.1).1 i.1 i.2.1) ∧ (i.2.2 = true → NoN b)) (fun i => (gU b (gU b 0).2.1).1 + 1 - i.1.length) (([], (gU b (gU b 0).2.1).2.1, false)) [0, 6] (fun i => [(4, .v false [.ptr 2 0]), (2, .v false [.ptr 1 0]), (7, .v false [.ptr 3 0]), (8, .v false [i6 i.1.length])]) [none, none, some fun i => some (true, [slE false b, i6 i.2.1, b1 i.2.2]), some fun i => some (true, [b1 false, .ref 4 0 i.1.length 1, .ref 5 0 0 1, .ref 6 0 0 1]), some fun i => nE i.1, some fun _ => nE ([] : List ByteArray), some fun _ => nE ([] : List Int)] ?_
      refine ⟨⟨by simp [cnt], by simp, fun _ => by rw [decide_eq_false hk] at hd; exact hd, fun h => (ft h).elim⟩, ?_, fun ⟨ks, p, bad⟩ hi => ?_⟩
      · exact (w_nilN 3 1 [b1 false] [.nil, .nil]).trans ((w_nilN 3 1 [b1 false, .ref 4 0 0 1] [.nil]).trans ((w_nilN 3 1 [b1 false, .ref 4 0 0 1, .ref 5 0 0 1] []).trans (jw [3])))
      · dsimp only at hi ⊢
        obtain ⟨f1, f2, f3, f4⟩ := hi
        cases bad
        · have hR := f3 rfl
          have hpl := hR.ple
          have hl2 := gT_len (b := b) (p := p)
          by_cases hlt : ks.length < (gU b (gU b 0).2.1).1
          · repeat' ((conv => whnf); (first | (apply cx173; refine kl (tx173 (b := b) (p := p) (bad := false)) ?_) | refine jap (apS ?_) | refine k0 ?_ | refine jA fun _ => ?_ | refine jB fun _ => ?_ | refine kC (fun _ => ?_) fun _ => ?_ | (apply cx172; refine kl tx172 ?_) | (apply cx173; refine kl tx173 ?_) | (apply cx94; refine kl tx94 ?_) | refine jst ?_ | exact ⟨rfl, rfl⟩ | exact jV | fail))
            refine ⟨⟨(ks ++ [sb (txR b p false).1], (txR b p false).2.1, (txR b p false).2.2), ?_⟩, by simp; omega, ?_⟩
            · cases ht : (gT b p).2.2
              · rw [txR_no (by rw [ht]; simp)]
                exact ⟨zSS_snoc f1 (by rw [sb_len]; simp), by simp; omega, fun h => (tf h).elim, fun _ => hR.stop hlt ht⟩
              · rw [txR_yes ht]
                exact ⟨zSS_snoc f1 (by rw [sb_len]; dsimp only; omega), by simp; omega, fun _ => hR.step hlt ht, fun h => (ft h).elim⟩
            · exact jw [3]
          · repeat' ((conv => whnf); (first | refine k0 ?_ | refine jA fun _ => ?_ | refine jB fun _ => ?_ | refine kC (fun _ => ?_) fun _ => ?_ | (apply cx172; refine kl tx172 ?_) | (apply cx173; refine kl tx173 ?_) | (apply cx94; refine kl tx94 ?_) | refine jst ?_ | exact ⟨rfl, rfl⟩ | exact jV | fail))
            have hk2 : RdI b (gU b (gU b 0).2.1).1 ks [] p := RdI.beg hR (by omega)
            conv => whnf
            refine loopk (ι := Nat) (fun i => i = 0) (fun i => 0) (0) [0, 2, 4, 6, 7, 10] (fun i => []) [none, none, none, none, none, none, none] ?_
            refine ⟨rfl, ?_, fun i hi => ?_⟩
            · exact jw [3]
            · repeat' ((conv => whnf); (first | refine k0 ?_ | refine jA fun _ => ?_ | refine jB fun _ => ?_ | refine kC (fun _ => ?_) fun _ => ?_ | (apply cx172; refine kl tx172 ?_) | (apply cx173; refine kl tx173 ?_) | (apply cx94; refine kl tx94 ?_) | refine jst ?_ | exact ⟨rfl, rfl⟩ | exact jV | fail))
              all_goals
                conv => whnf
                refine loopk (ι := List Int × Nat × Bool) (fun i => i.1.length ≤ (gU b (gU b 0).2.1).1 + 1 ∧ (i.2.2 = false → RdI b (gU b (gU b 0).2.1).1 ks i.1 i.2.1) ∧ (i.2.2 = true → NoN b)) (fun i => (gU b (gU b 0).2.1).1 + 2 - i.1.length) (([], p, false)) [0, 6] (fun i => [(4, .v false [.ptr 2 0]), (2, .v false [.ptr 1 0]), (7, .v false [.ptr 3 0]), (12, .v false [i6 i.1.length])]) [none, none, some fun i => some (true, [slE false b, i6 i.2.1, b1 i.2.2]), some fun i => some (true, [b1 false, .ref 4 0 ks.length 1, .ref 5 0 0 1, .ref 6 0 i.1.length 1]), some fun _ => nE ks, some fun _ => nE ([] : List ByteArray), some fun i => nE i.1] ?_
                refine ⟨⟨by simp, fun _ => hk2, fun h => (ft h).elim⟩, ?_, fun ⟨is, p, bad⟩ hi => ?_⟩
                · exact jw [3]
                · dsimp only at hi ⊢
                  obtain ⟨g2, g3, g4⟩ := hi
                  have hz : zN ⟨false, ks, [], is⟩ ≤ 2000000 := by show zSS ks + (0 + 0) + is.length ≤ 2000000; omega
                  cases bad
                  · have hR2 := g3 rfl
                    have hpl := hR2.ple
                    by_cases hlt : is.length < (gU b (gU b 0).2.1).1 + 1
                    · repeat' ((conv => whnf); (first | (apply cx172; refine kl (tx172 (b := b) (p := p) (bad := false)) ?_) | refine jap (apI ?_) | refine k0 ?_ | refine jA fun _ => ?_ | refine jB fun _ => ?_ | refine kC (fun _ => ?_) fun _ => ?_ | (apply cx172; refine kl tx172 ?_) | (apply cx173; refine kl tx173 ?_) | (apply cx94; refine kl tx94 ?_) | refine jst ?_ | exact ⟨rfl, rfl⟩ | exact jV | fail))
                      refine ⟨⟨(is ++ [((nmR b p false).1 : Int)], (nmR b p false).2.1, (nmR b p false).2.2), ?_⟩, by simp; omega, ?_⟩
                      · cases ht : (gU b p).2.2
                        · rw [nmR_no (by rw [ht]; simp)]
                          exact ⟨by simp; omega, fun h => (tf h).elim, fun _ => hR2.stop hlt ht⟩
                        · rw [nmR_yes ht]
                          exact ⟨by simp; omega, fun _ => hR2.step hlt ht, fun h => (ft h).elim⟩
                      · exact jw [3]
                    · have hfin := hR2.fin (by omega)
                      cases hn : nodOk ⟨false, ks, [], is⟩
                      · have hno : NoN b := fun x hx e => by
                          have e2 := hfin.2 x hx e
                          rw [← e2, nodOk_yes hx] at hn; cases hn
                        repeat' ((conv => whnf); (first | (apply cx94; refine kl (tx94 (x := ⟨false, ks, [], is⟩)) ?_) | refine k0 ?_ | refine jA fun _ => ?_ | refine jB fun _ => ?_ | refine kC (fun _ => ?_) fun _ => ?_ | (apply cx172; refine kl tx172 ?_) | (apply cx173; refine kl tx173 ?_) | (apply cx94; refine kl tx94 ?_) | refine jst ?_ | exact ⟨rfl, rfl⟩ | exact jV | fail))
                        all_goals exact ⟨by rw [gN_no hno]; rfl, rfl⟩
                      · by_cases hpe : p = b.length
                        · have hbe : bdN ⟨false, ks, [], is⟩ = b := by
                            have := hfin.1
                            rwa [hpe, List.drop_length, List.append_nil] at this
                          repeat' ((conv => whnf); (first | (apply cx94; refine kl (tx94 (x := ⟨false, ks, [], is⟩)) ?_) | refine k0 ?_ | refine jA fun _ => ?_ | refine jB fun _ => ?_ | refine kC (fun _ => ?_) fun _ => ?_ | (apply cx172; refine kl tx172 ?_) | (apply cx173; refine kl tx173 ?_) | (apply cx94; refine kl tx94 ?_) | refine jst ?_ | exact ⟨rfl, rfl⟩ | exact jV | fail))
                          exact ⟨by rw [gN_yes (nodOk_iff.1 hn) hbe]; rfl, rfl⟩
                        · have hno : NoN b := fun x hx e => by
                            have e2 := hfin.2 x hx e
                            subst e2
                            have e3 := congrArg List.length hfin.1
                            rw [e, List.length_append, List.length_drop] at e3
                            omega
                          repeat' ((conv => whnf); (first | (apply cx94; refine kl (tx94 (x := ⟨false, ks, [], is⟩)) ?_) | refine k0 ?_ | refine jA fun _ => ?_ | refine jB fun _ => ?_ | refine kC (fun _ => ?_) fun _ => ?_ | (apply cx172; refine kl tx172 ?_) | (apply cx173; refine kl tx173 ?_) | (apply cx94; refine kl tx94 ?_) | refine jst ?_ | exact ⟨rfl, rfl⟩ | exact jV | fail))
                          all_goals exact ⟨by rw [gN_no hno]; rfl, rfl⟩
                  · have hno := g4 rfl
                    repeat' ((conv => whnf); (first | refine k0 ?_ | refine jA fun _ => ?_ | refine jB fun _ => ?_ | refine kC (fun _ => ?_) fun _ => ?_ | (apply cx172; refine kl tx172 ?_) | (apply cx173; refine kl tx173 ?_) | (apply cx94; refine kl tx94 ?_) | refine jst ?_ | exact ⟨rfl, rfl⟩ | exact jV | fail))
                    all_goals exact ⟨by rw [gN_no hno]; rfl, rfl⟩
        · have hno := f4 rfl
          repeat' ((conv => whnf); (first | refine k0 ?_ | refine jA fun _ => ?_ | refine jB fun _ => ?_ | refine kC (fun _ => ?_) fun _ => ?_ | (apply cx172; refine kl tx172 ?_) | (apply cx173; refine kl tx173 ?_) | (apply cx94; refine kl tx94 ?_) | refine jst ?_ | exact ⟨rfl, rfl⟩ | exact jV | fail))
          all_goals
            conv => whnf
            refine loopk (ι := Nat) (fun i => i = 0) (fun i => 0) (0) [0, 2, 4, 6, 7, 10] (fun i => []) [none, none, none, none, none, none, none] ?_
            refine ⟨rfl, ?_, fun i hi => ?_⟩
            · exact jw [3]
            · repeat' ((conv => whnf); (first | refine k0 ?_ | refine jA fun _ => ?_ | refine jB fun _ => ?_ | refine kC (fun _ => ?_) fun _ => ?_ | (apply cx172; refine kl tx172 ?_) | (apply cx173; refine kl tx173 ?_) | (apply cx94; refine kl tx94 ?_) | refine jst ?_ | exact ⟨rfl, rfl⟩ | exact jV | fail))
              all_goals
                conv => whnf
                refine loopk (ι := Nat) (fun i => i = 0) (fun i => 0) (0) [0, 2, 4, 6, 7, 12] (fun i => []) [none, none, none, none, none, none, none] ?_
                refine ⟨rfl, ?_, fun i hi => ?_⟩
                · exact jw [3]
                · repeat' ((conv => whnf); (first | refine k0 ?_ | refine jA fun _ => ?_ | refine jB fun _ => ?_ | refine kC (fun _ => ?_) fun _ => ?_ | (apply cx172; refine kl tx172 ?_) | (apply cx173; refine kl tx173 ?_) | (apply cx94; refine kl tx94 ?_) | refine jst ?_ | exact ⟨rfl, rfl⟩ | exact jV | fail))
                  all_goals exact ⟨by rw [gN_no hno]; rfl, rfl⟩
  · have hno : NoN b := fun x hx e => hh (by
      subst e
      obtain ⟨a1, a2, a3, a4⟩ := hd_no hx
      refine ⟨a1, a3, a2, ?_⟩
      rw [a4]
      have := fmX_len2 (l := x.keys)
      rw [bdN]; simp only [List.length_append]; omega)
    cases h1 : (gU b 0).2.2
    · have hN1 : T 172 [aR b 0 false] [vI (0 : Nat)] [oR b 0 true] := by
        have h := tx172 (b := b) (p := 0) (bad := false)
        rwa [nmR_no (fun q => absurd (h1.symm.trans q.2) (by decide))] at h
      have hN2 : T 172 [aR b 0 true] [vI (0 : Nat)] [oR b 0 true] := by
        have h := tx172 (b := b) (p := 0) (bad := true)
        rwa [nmR_no (fun q => by cases q.1)] at h
      repeat' ((conv => whnf); (first | (apply cx172; refine kl (hN1) ?_) | (apply cx172; refine kl (hN2) ?_) | refine k0 ?_ | refine jA fun _ => ?_ | refine jB fun _ => ?_ | refine kC (fun _ => ?_) fun _ => ?_ | (apply cx172; refine kl tx172 ?_) | (apply cx173; refine kl tx173 ?_) | (apply cx94; refine kl tx94 ?_) | refine jst ?_ | exact ⟨rfl, rfl⟩ | exact jV | fail))
      all_goals
        conv => whnf
        refine loopk (ι := Nat) (fun i => i = 0) (fun i => 0) (0) [0, 2, 4, 6, 7, 8] (fun i => []) [none, none, none, none] ?_
        refine ⟨rfl, ?_, fun i hi => ?_⟩
        · exact jw []
        · repeat' ((conv => whnf); (first | refine k0 ?_ | refine jA fun _ => ?_ | refine jB fun _ => ?_ | refine kC (fun _ => ?_) fun _ => ?_ | (apply cx172; refine kl tx172 ?_) | (apply cx173; refine kl tx173 ?_) | (apply cx94; refine kl tx94 ?_) | refine jst ?_ | exact ⟨rfl, rfl⟩ | exact jV | fail))
          all_goals
            conv => whnf
            refine loopk (ι := Nat) (fun i => i = 0) (fun i => 0) (0) [0, 2, 4, 6, 7, 10] (fun i => []) [none, none, none, none] ?_
            refine ⟨rfl, ?_, fun i hi => ?_⟩
            · exact jw []
            · repeat' ((conv => whnf); (first | refine k0 ?_ | refine jA fun _ => ?_ | refine jB fun _ => ?_ | refine kC (fun _ => ?_) fun _ => ?_ | (apply cx172; refine kl tx172 ?_) | (apply cx173; refine kl tx173 ?_) | (apply cx94; refine kl tx94 ?_) | refine jst ?_ | exact ⟨rfl, rfl⟩ | exact jV | fail))
              all_goals
                conv => whnf
                refine loopk (ι := Nat) (fun i => i = 0) (fun i => 0) (0) [0, 2, 4, 6, 7, 12] (fun i => []) [none, none, none, none] ?_
                refine ⟨rfl, ?_, fun i hi => ?_⟩
                · exact jw []
                · repeat' ((conv => whnf); (first | refine k0 ?_ | refine jA fun _ => ?_ | refine jB fun _ => ?_ | refine kC (fun _ => ?_) fun _ => ?_ | (apply cx172; refine kl tx172 ?_) | (apply cx173; refine kl tx173 ?_) | (apply cx94; refine kl tx94 ?_) | refine jst ?_ | exact ⟨rfl, rfl⟩ | exact jV | fail))
                  all_goals exact ⟨by rw [gN_no hno]; rfl, rfl⟩
    · have hN1 : T 172 [aR b 0 false] [vI (gU b 0).1] [oR b (gU b 0).2.1 false] := by
        have h := tx172 (b := b) (p := 0) (bad := false)
        rwa [nmR_yes h1] at h
      cases h2 : (gU b (gU b 0).2.1).2.2
      · have hN2 : T 172 [aR b (gU b 0).2.1 false] [vI (0 : Nat)] [oR b (gU b 0).2.1 true] := by
          have h := tx172 (b := b) (p := (gU b 0).2.1) (bad := false)
          rwa [nmR_no (fun q => absurd (h2.symm.trans q.2) (by decide))] at h
        repeat' ((conv => whnf); (first | (apply cx172; refine kl (hN1) ?_) | (apply cx172; refine kl (hN2) ?_) | refine k0 ?_ | refine jA fun _ => ?_ | refine jB fun _ => ?_ | refine kC (fun _ => ?_) fun _ => ?_ | (apply cx172; refine kl tx172 ?_) | (apply cx173; refine kl tx173 ?_) | (apply cx94; refine kl tx94 ?_) | refine jst ?_ | exact ⟨rfl, rfl⟩ | exact jV | fail))
        all_goals
          conv => whnf
          refine loopk (ι := Nat) (fun i => i = 0) (fun i => 0) (0) [0, 2, 4, 6, 7, 8] (fun i => []) [none, none, none, none] ?_
          refine ⟨rfl, ?_, fun i hi => ?_⟩
          · exact jw []
          · repeat' ((conv => whnf); (first | refine k0 ?_ | refine jA fun _ => ?_ | refine jB fun _ => ?_ | refine kC (fun _ => ?_) fun _ => ?_ | (apply cx172; refine kl tx172 ?_) | (apply cx173; refine kl tx173 ?_) | (apply cx94; refine kl tx94 ?_) | refine jst ?_ | exact ⟨rfl, rfl⟩ | exact jV | fail))
            all_goals
              conv => whnf
              refine loopk (ι := Nat) (fun i => i = 0) (fun i => 0) (0) [0, 2, 4, 6, 7, 10] (fun i => []) [none, none, none, none] ?_
              refine ⟨rfl, ?_, fun i hi => ?_⟩
              · exact jw []
              · repeat' ((conv => whnf); (first | refine k0 ?_ | refine jA fun _ => ?_ | refine jB fun _ => ?_ | refine kC (fun _ => ?_) fun _ => ?_ | (apply cx172; refine kl tx172 ?_) | (apply cx173; refine kl tx173 ?_) | (apply cx94; refine kl tx94 ?_) | refine jst ?_ | exact ⟨rfl, rfl⟩ | exact jV | fail))
                all_goals
                  conv => whnf
                  refine loopk (ι := Nat) (fun i => i = 0) (fun i => 0) (0) [0, 2, 4, 6, 7, 12] (fun i => []) [none, none, none, none] ?_
                  refine ⟨rfl, ?_, fun i hi => ?_⟩
                  · exact jw []
                  · repeat' ((conv => whnf); (first | refine k0 ?_ | refine jA fun _ => ?_ | refine jB fun _ => ?_ | refine kC (fun _ => ?_) fun _ => ?_ | (apply cx172; refine kl tx172 ?_) | (apply cx173; refine kl tx173 ?_) | (apply cx94; refine kl tx94 ?_) | refine jst ?_ | exact ⟨rfl, rfl⟩ | exact jV | fail))
                    all_goals exact ⟨by rw [gN_no hno]; rfl, rfl⟩
      · have hN2 : T 172 [aR b (gU b 0).2.1 false] [vI (gU b (gU b 0).2.1).1] [oR b (gU b (gU b 0).2.1).2.1 false] := by
          have h := tx172 (b := b) (p := (gU b 0).2.1) (bad := false)
          rwa [nmR_yes h2] at h
        repeat' ((conv => whnf); (first | (apply cx172; refine kl (hN1) ?_) | (apply cx172; refine kl (hN2) ?_) | refine k0 ?_ | refine jA fun _ => ?_ | refine jB fun _ => ?_ | refine kC (fun _ => ?_) fun _ => ?_ | (apply cx172; refine kl tx172 ?_) | (apply cx173; refine kl tx173 ?_) | (apply cx94; refine kl tx94 ?_) | refine jst ?_ | exact ⟨rfl, rfl⟩ | exact jV | fail))
        all_goals try exact (hh ⟨h1, h2, by omega, by omega⟩).elim
        all_goals
          conv => whnf
          refine loopk (ι := Nat) (fun i => i = 0) (fun i => 0) (0) [0, 2, 4, 6, 7, 8] (fun i => []) [none, none, none, none] ?_
          refine ⟨rfl, ?_, fun i hi => ?_⟩
          · exact jw []
          · repeat' ((conv => whnf); (first | refine k0 ?_ | refine jA fun _ => ?_ | refine jB fun _ => ?_ | refine kC (fun _ => ?_) fun _ => ?_ | (apply cx172; refine kl tx172 ?_) | (apply cx173; refine kl tx173 ?_) | (apply cx94; refine kl tx94 ?_) | refine jst ?_ | exact ⟨rfl, rfl⟩ | exact jV | fail))
            all_goals
              conv => whnf
              refine loopk (ι := Nat) (fun i => i = 0) (fun i => 0) (0) [0, 2, 4, 6, 7, 10] (fun i => []) [none, none, none, none] ?_
              refine ⟨rfl, ?_, fun i hi => ?_⟩
              · exact jw []
              · repeat' ((conv => whnf); (first | refine k0 ?_ | refine jA fun _ => ?_ | refine jB fun _ => ?_ | refine kC (fun _ => ?_) fun _ => ?_ | (apply cx172; refine kl tx172 ?_) | (apply cx173; refine kl tx173 ?_) | (apply cx94; refine kl tx94 ?_) | refine jst ?_ | exact ⟨rfl, rfl⟩ | exact jV | fail))
                all_goals
                  conv => whnf
                  refine loopk (ι := Nat) (fun i => i = 0) (fun i => 0) (0) [0, 2, 4, 6, 7, 12] (fun i => []) [none, none, none, none] ?_
                  refine ⟨rfl, ?_, fun i hi => ?_⟩
                  · exact jw []
                  · repeat' ((conv => whnf); (first | refine k0 ?_ | refine jA fun _ => ?_ | refine jB fun _ => ?_ | refine kC (fun _ => ?_) fun _ => ?_ | (apply cx172; refine kl tx172 ?_) | (apply cx173; refine kl tx173 ?_) | (apply cx94; refine kl tx94 ?_) | refine jst ?_ | exact ⟨rfl, rfl⟩ | exact jV | fail))
                    all_goals exact ⟨by rw [gN_no hno]; rfl, rfl⟩

theorem cx159 {P : Program} {X : FuncId → List Arg → List (Bool × List Cell) → List (Option (List Cell)) → Prop} {a : List Arg} {Q : List (Bool × List Cell) → List (Option (List Cell)) → Prop} (h : ∃ b vals outs, a = b ∧ D P X (.call 159 b vals outs) ∧ Q vals outs) : CallS P X 159 a Q := ⟨h⟩

end Go.Proofs.YtkggnekdjdnhiaaGreat
