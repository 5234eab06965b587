/- Functions of the program, each with what it gives back. -/
import Derived.Test.YtkggnekdjdnhiaaGreatKe
import Derived.Test.YtkggnekdjdnhiaaGreatChecked
import Derived.IntWalk
import Derived.Test.YtkggnekdjdnhiaaGreatFl
namespace Go.Proofs.YtkggnekdjdnhiaaGreat
open Go Go.RowKit Go.IntWalk
open Enc (sz cs)
attribute [local irreducible] IntKind.wrap

attribute [local irreducible] gU gT gS gP gM ptP ptM ptS crcN rdS bdN
theorem zSS_snoc {l : List ByteArray} {s : ByteArray} (h : zSS l ≤ 500 * l.length) (hs : s.size ≤ 300) : zSS (l ++ [s]) ≤ 500 * (l ++ [s]).length := by
  unfold zSS at *
  rw [cnt_app]
  simp [cnt]; omega
theorem bdN_pos (x : Nod) : 0 < (bdN x).length := by rw [bdN]; simp

set_option maxHeartbeats 2000000 in
set_option maxRecDepth 100000 in
theorem tx133 {b : List UInt8} (hb : b.length ≤ 240 := by first | assumption | omega | (simp; done) | (simp; omega)) : T 133 [aE b] [(true, nodC true (gN b).1), vB (gN b).2] [none] := by
  refine w_call md [[1, 1, 1], []] Tryz.func133 rfl ?_
  have hs0 := gU_small b 0
  have hs1 := gU_small b (gU b 0).2.1
  by_cases hh : (gU b 0).2.2 = true ∧ (gU b (gU b 0).2.1).2.2 = true ∧ (gU b 0).1 ≤ 1 ∧ (gU b (gU b 0).2.1).1 ≤ 240
  · obtain ⟨h1, h2, h3, h4⟩ := hh
    have hin : inB (gU b 0).1 0 1 = true := inB_iff.2 (by omega)
    have hd := hd_ok h1 h2 h3
    by_cases hk : (gU b 0).1 = 1
    · repeat' ((conv => whnf); (first | refine k0 ?_ | refine jA fun _ => ?_ | refine jB fun _ => ?_ | refine kC (fun _ => ?_) fun _ => ?_ | (apply cx142; refine kl tx142 ?_) | (apply cx98; refine kl tx98 ?_) | (apply cx153; refine kl tx153 ?_) | (apply cx63; refine kl tx63 ?_) | refine jst ?_ | exact ⟨rfl, rfl⟩ | exact jV | fail))
      conv => whnf
      refine loopk (ι := List ByteArray × Nat × Bool) (fun i => zSS i.1 ≤ 500 * i.1.length ∧ i.1.length ≤ (gU b (gU b 0).2.1).1 ∧ (i.2.2 = true → RdK b true (gU b (gU b 0).2.1).1 i.1 i.2.1) ∧ (i.2.2 = false → NoN b)) (fun i => (gU b (gU b 0).2.1).1 + 1 - i.1.length) (([], (gU b (gU b 0).2.1).2.1, true)) [0, 7] (fun i => [(2, .v false [.ptr 1 0]), (5, .v false [i6 i.2.1]), (6, .v false [b1 i.2.2]), (9, .v false [.ptr 2 0]), (10, .v false [i6 i.1.length])]) [none, none, some fun i => some (true, [b1 true, .ref 3 0 i.1.length 1, .ref 4 0 0 1, .ref 5 0 0 1]), some fun i => nE i.1, some fun _ => nE ([] : List ByteArray), some fun _ => nE ([] : List Int)] ?_
      refine ⟨⟨by simp [cnt], by simp, fun _ => by rw [decide_eq_true hk] at hd; exact hd, fun h => (tf h).elim⟩, ?_, fun ⟨ks, p, ok⟩ hi => ?_⟩
      · exact (w_nilN 2 1 [b1 true] [.nil, .nil]).trans ((w_nilN 2 1 [b1 true, .ref 3 0 0 1] [.nil]).trans ((w_nilN 2 1 [b1 true, .ref 3 0 0 1, .ref 4 0 0 1] []).trans (jw [2])))
      · dsimp only at hi ⊢
        obtain ⟨f1, f2, f3, f4⟩ := hi
        have hz0 : zN ⟨true, ks, [], []⟩ ≤ 2000000 := by show zSS ks + (0 + 0) + 0 ≤ 2000000; omega
        cases ok
        · have hno := f4 rfl
          repeat' ((conv => whnf); (first | refine k0 ?_ | refine jA fun _ => ?_ | refine jB fun _ => ?_ | refine kC (fun _ => ?_) fun _ => ?_ | (apply cx142; refine kl tx142 ?_) | (apply cx98; refine kl tx98 ?_) | (apply cx153; refine kl tx153 ?_) | (apply cx63; refine kl tx63 ?_) | refine jst ?_ | exact ⟨rfl, rfl⟩ | exact jV | fail))
          conv => whnf
          refine loopk (ι := Nat) (fun i => i = 0) (fun i => 0) (0) [0, 2, 5, 6, 7, 9, 12] (fun i => []) [none, none, none, none, none, none] ?_
          refine ⟨rfl, ?_, fun i hi => ?_⟩
          · exact jw [2]
          · repeat' ((conv => whnf); (first | refine k0 ?_ | refine jA fun _ => ?_ | refine jB fun _ => ?_ | refine kC (fun _ => ?_) fun _ => ?_ | (apply cx142; refine kl tx142 ?_) | (apply cx98; refine kl tx98 ?_) | (apply cx153; refine kl tx153 ?_) | (apply cx63; refine kl tx63 ?_) | refine jst ?_ | exact ⟨rfl, rfl⟩ | exact jV | fail))
            conv => whnf
            refine loopk (ι := Nat) (fun i => i = 0) (fun i => 0) (0) [0, 2, 5, 6, 7, 9, 14] (fun i => []) [none, none, none, none, none, none] ?_
            refine ⟨rfl, ?_, fun i hi => ?_⟩
            · exact jw [2]
            · repeat' ((conv => whnf); (first | (apply cx63; refine kl (tx63 (x := ⟨true, ks, [], []⟩)) ?_) | refine k0 ?_ | refine jA fun _ => ?_ | refine jB fun _ => ?_ | refine kC (fun _ => ?_) fun _ => ?_ | (apply cx142; refine kl tx142 ?_) | (apply cx98; refine kl tx98 ?_) | (apply cx153; refine kl tx153 ?_) | (apply cx63; refine kl tx63 ?_) | refine jst ?_ | exact ⟨rfl, rfl⟩ | exact jV | fail))
              all_goals exact ⟨by rw [gN_no hno]; rfl, rfl⟩
        · have hR := f3 rfl
          have hpl := hR.ple
          have hl2 := gT_len (b := b) (p := p)
          by_cases hlt : ks.length < (gU b (gU b 0).2.1).1
          · repeat' ((conv => whnf); (first | refine jap (apS ?_) | refine k0 ?_ | refine jA fun _ => ?_ | refine jB fun _ => ?_ | refine kC (fun _ => ?_) fun _ => ?_ | (apply cx142; refine kl tx142 ?_) | (apply cx98; refine kl tx98 ?_) | (apply cx153; refine kl tx153 ?_) | (apply cx63; refine kl tx63 ?_) | refine jst ?_ | exact ⟨rfl, rfl⟩ | exact jV | fail))
            · refine ⟨⟨(ks ++ [sb (gT b p).1], (gT b p).2.1, true), zSS_snoc f1 (by rw [sb_len]; omega), by simp; omega, fun _ => hR.step hlt ‹_›, fun h => (tf h).elim⟩, by simp; omega, ?_⟩
              exact jw [2]
            · refine ⟨⟨(ks ++ [sb (gT b p).1], (gT b p).2.1, false), zSS_snoc f1 (by rw [sb_len]; omega), by simp; omega, fun h => (ft h).elim, fun _ => hR.stop hlt ‹_›⟩, by simp; omega, ?_⟩
              exact jw [2]
          · repeat' ((conv => whnf); (first | refine k0 ?_ | refine jA fun _ => ?_ | refine jB fun _ => ?_ | refine kC (fun _ => ?_) fun _ => ?_ | (apply cx142; refine kl tx142 ?_) | (apply cx98; refine kl tx98 ?_) | (apply cx153; refine kl tx153 ?_) | (apply cx63; refine kl tx63 ?_) | refine jst ?_ | exact ⟨rfl, rfl⟩ | exact jV | fail))
            have hk2 : RdV b (gU b (gU b 0).2.1).1 ks [] p := RdV.beg hR (by omega)
            conv => whnf
            refine loopk (ι := List ByteArray × Nat × Bool) (fun i => zSS i.1 ≤ 500 * i.1.length ∧ i.1.length ≤ (gU b (gU b 0).2.1).1 ∧ (i.2.2 = true → RdV b (gU b (gU b 0).2.1).1 ks i.1 i.2.1) ∧ (i.2.2 = false → NoN b)) (fun i => (gU b (gU b 0).2.1).1 + 1 - i.1.length) (([], p, true)) [0, 2, 7, 9] (fun i => [(5, .v false [i6 i.2.1]), (6, .v false [b1 i.2.2]), (12, .v false [i6 i.1.length])]) [none, none, some fun i => some (true, [b1 true, .ref 3 0 ks.length 1, .ref 4 0 i.1.length 1, .ref 5 0 0 1]), some fun _ => nE ks, some fun i => nE i.1, some fun _ => nE ([] : List Int)] ?_
            refine ⟨⟨by simp [cnt], by simp, fun _ => hk2, fun h => (tf h).elim⟩, ?_, fun ⟨vs, p, ok⟩ hi => ?_⟩
            · exact jw [2]
            · dsimp only at hi ⊢
              obtain ⟨g1, g2, g3, g4⟩ := hi
              have hz : zN ⟨true, ks, vs, []⟩ ≤ 2000000 := by show zSS ks + zSS vs + 0 ≤ 2000000; omega
              cases ok
              · have hno := g4 rfl
                repeat' ((conv => whnf); (first | refine k0 ?_ | refine jA fun _ => ?_ | refine jB fun _ => ?_ | refine kC (fun _ => ?_) fun _ => ?_ | (apply cx142; refine kl tx142 ?_) | (apply cx98; refine kl tx98 ?_) | (apply cx153; refine kl tx153 ?_) | (apply cx63; refine kl tx63 ?_) | refine jst ?_ | exact ⟨rfl, rfl⟩ | exact jV | fail))
                conv => whnf
                refine loopk (ι := Nat) (fun i => i = 0) (fun i => 0) (0) [0, 2, 5, 6, 7, 9, 14] (fun i => []) [none, none, none, none, none, none] ?_
                refine ⟨rfl, ?_, fun i hi => ?_⟩
                · exact jw [2]
                · repeat' ((conv => whnf); (first | refine k0 ?_ | refine jA fun _ => ?_ | refine jB fun _ => ?_ | refine kC (fun _ => ?_) fun _ => ?_ | (apply cx142; refine kl tx142 ?_) | (apply cx98; refine kl tx98 ?_) | (apply cx153; refine kl tx153 ?_) | (apply cx63; refine kl tx63 ?_) | refine jst ?_ | exact ⟨rfl, rfl⟩ | exact jV | fail))
                  repeat' ((conv => whnf); (first | (apply cx63; refine kl (tx63 (x := ⟨true, ks, vs, []⟩)) ?_) | refine k0 ?_ | refine jA fun _ => ?_ | refine jB fun _ => ?_ | refine kC (fun _ => ?_) fun _ => ?_ | (apply cx142; refine kl tx142 ?_) | (apply cx98; refine kl tx98 ?_) | (apply cx153; refine kl tx153 ?_) | (apply cx63; refine kl tx63 ?_) | refine jst ?_ | exact ⟨rfl, rfl⟩ | exact jV | fail))
                  all_goals exact ⟨by rw [gN_no hno]; rfl, rfl⟩
              · have hR2 := g3 rfl
                have hpl := hR2.ple
                have hl2 := gT_len (b := b) (p := p)
                by_cases hlt : vs.length < (gU b (gU b 0).2.1).1
                · repeat' ((conv => whnf); (first | refine jap (apS ?_) | refine k0 ?_ | refine jA fun _ => ?_ | refine jB fun _ => ?_ | refine kC (fun _ => ?_) fun _ => ?_ | (apply cx142; refine kl tx142 ?_) | (apply cx98; refine kl tx98 ?_) | (apply cx153; refine kl tx153 ?_) | (apply cx63; refine kl tx63 ?_) | refine jst ?_ | exact ⟨rfl, rfl⟩ | exact jV | fail))
                  · refine ⟨⟨(vs ++ [sb (gT b p).1], (gT b p).2.1, true), zSS_snoc g1 (by rw [sb_len]; omega), by simp; omega, fun _ => hR2.step hlt ‹_›, fun h => (tf h).elim⟩, by simp; omega, ?_⟩
                    exact jw [2]
                  · refine ⟨⟨(vs ++ [sb (gT b p).1], (gT b p).2.1, false), zSS_snoc g1 (by rw [sb_len]; omega), by simp; omega, fun h => (ft h).elim, fun _ => hR2.stop hlt ‹_›⟩, by simp; omega, ?_⟩
                    exact jw [2]
                · repeat' ((conv => whnf); (first | refine k0 ?_ | refine jA fun _ => ?_ | refine jB fun _ => ?_ | refine kC (fun _ => ?_) fun _ => ?_ | (apply cx142; refine kl tx142 ?_) | (apply cx98; refine kl tx98 ?_) | (apply cx153; refine kl tx153 ?_) | (apply cx63; refine kl tx63 ?_) | refine jst ?_ | exact ⟨rfl, rfl⟩ | exact jV | fail))
                  have hfin := hR2.fin (by omega)
                  have hpos := bdN_pos ⟨true, ks, vs, []⟩
                  have hnil : ([] : List UInt8).length = 0 := rfl
                  cases hn : nodOk ⟨true, ks, vs, []⟩
                  · have hno : NoN b := fun x hx e => by
                      have e2 := hfin.2 x hx e
                      rw [← e2, nodOk_yes hx] at hn; cases hn
                    have hP : T 63 [.val true (nodC false ⟨true, ks, vs, []⟩)] [vE ([] : List UInt8)] [none] := by
                      have h := tx63 (x := ⟨true, ks, vs, []⟩)
                      rwa [if_neg (by rw [hn]; simp)] at h
                    conv => whnf
                    refine loopk (ι := Nat) (fun i => i = 0) (fun i => 0) (0) [0, 2, 5, 6, 7, 9, 14] (fun i => []) [none, none, none, none, none, none] ?_
                    refine ⟨rfl, ?_, fun i hi => ?_⟩
                    · exact jw [2]
                    · repeat' ((conv => whnf); (first | (apply cx63; refine kl (hP) ?_) | refine k0 ?_ | refine jA fun _ => ?_ | refine jB fun _ => ?_ | refine kC (fun _ => ?_) fun _ => ?_ | (apply cx142; refine kl tx142 ?_) | (apply cx98; refine kl tx98 ?_) | (apply cx153; refine kl tx153 ?_) | (apply cx63; refine kl tx63 ?_) | refine jst ?_ | exact ⟨rfl, rfl⟩ | exact jV | fail))
                      all_goals exact ⟨by rw [gN_no hno]; rfl, rfl⟩
                  · have hP : T 63 [.val true (nodC false ⟨true, ks, vs, []⟩)] [vE (bdN ⟨true, ks, vs, []⟩)] [none] := by
                      have h := tx63 (x := ⟨true, ks, vs, []⟩)
                      rwa [if_pos hn] at h
                    conv => whnf
                    refine loopk (ι := Nat) (fun i => i = 0) (fun i => 0) (0) [0, 2, 5, 6, 7, 9, 14] (fun i => []) [none, none, none, none, none, none] ?_
                    refine ⟨rfl, ?_, fun i hi => ?_⟩
                    · exact jw [2]
                    · repeat' ((conv => whnf); (first | (apply cx63; refine kl (hP) ?_) | refine Exists.intro _ (Exists.intro _ (Exists.intro _ (And.intro rfl (And.intro strOf_ro ?_)))) | refine Exists.intro _ (Exists.intro _ (Exists.intro _ (And.intro (srcO (α := UInt8) rfl rfl) (And.intro strOf_cs ?_)))) | refine k0 ?_ | refine jA fun _ => ?_ | refine jB fun _ => ?_ | refine kC (fun _ => ?_) fun _ => ?_ | (apply cx142; refine kl tx142 ?_) | (apply cx98; refine kl tx98 ?_) | (apply cx153; refine kl tx153 ?_) | (apply cx63; refine kl tx63 ?_) | refine jst ?_ | exact ⟨rfl, rfl⟩ | exact jV | fail))
                      · have hno : NoN b := fun x hx e => by
                          have e2 := hfin.2 x hx e
                          subst e2
                          exact ‹_ ≠ (sb b).toList› (by rw [e])
                        exact ⟨by rw [gN_no hno]; rfl, rfl⟩
                      · exact ⟨by rw [gN_yes (nodOk_iff.1 hn) (bl_eq (Classical.not_not.1 ‹¬ (_ ≠ (sb b).toList)›))]; rfl, rfl⟩

    · repeat' ((conv => whnf); (first | refine k0 ?_ | refine jA fun _ => ?_ | refine jB fun _ => ?_ | refine kC (fun _ => ?_) fun _ => ?_ | (apply cx142; refine kl tx142 ?_) | (apply cx98; refine kl tx98 ?_) | (apply cx153; refine kl tx153 ?_) | (apply cx63; refine kl tx63 ?_) | refine jst ?_ | exact ⟨rfl, rfl⟩ | exact jV | fail))
      conv => whnf
      refine loopk (ι := List ByteArray × Nat × Bool) (fun i => zSS i.1 ≤ 500 * i.1.length ∧ i.1.length ≤ (gU b (gU b 0).2.1).1 ∧ (i.2.2 = true → RdK b false (gU b (gU b 0).2.1).1 i.1 i.2.1) ∧ (i.2.2 = false → NoN b)) (fun i => (gU b (gU b 0).2.1).1 + 1 - i.1.length) (([], (gU b (gU b 0).2.1).2.1, true)) [0, 7] (fun i => [(2, .v false [.ptr 1 0]), (5, .v false [i6 i.2.1]), (6, .v false [b1 i.2.2]), (9, .v false [.ptr 2 0]), (10, .v false [i6 i.1.length])]) [none, none, some fun i => some (true, [b1 false, .ref 3 0 i.1.length 1, .ref 4 0 0 1, .ref 5 0 0 1]), some fun i => nE i.1, some fun _ => nE ([] : List ByteArray), some fun _ => nE ([] : List Int)] ?_
      refine ⟨⟨by simp [cnt], by simp, fun _ => by rw [decide_eq_false hk] at hd; exact hd, fun h => (tf h).elim⟩, ?_, fun ⟨ks, p, ok⟩ hi => ?_⟩
      · exact (w_nilN 2 1 [b1 false] [.nil, .nil]).trans ((w_nilN 2 1 [b1 false, .ref 3 0 0 1] [.nil]).trans ((w_nilN 2 1 [b1 false, .ref 3 0 0 1, .ref 4 0 0 1] []).trans (jw [2])))
      · dsimp only at hi ⊢
        obtain ⟨f1, f2, f3, f4⟩ := hi
        have hz0 : zN ⟨false, ks, [], []⟩ ≤ 2000000 := by show zSS ks + (0 + 0) + 0 ≤ 2000000; omega
        cases ok
        · have hno := f4 rfl
          repeat' ((conv => whnf); (first | refine k0 ?_ | refine jA fun _ => ?_ | refine jB fun _ => ?_ | refine kC (fun _ => ?_) fun _ => ?_ | (apply cx142; refine kl tx142 ?_) | (apply cx98; refine kl tx98 ?_) | (apply cx153; refine kl tx153 ?_) | (apply cx63; refine kl tx63 ?_) | refine jst ?_ | exact ⟨rfl, rfl⟩ | exact jV | fail))
          conv => whnf
          refine loopk (ι := Nat) (fun i => i = 0) (fun i => 0) (0) [0, 2, 5, 6, 7, 9, 12] (fun i => []) [none, none, none, none, none, none] ?_
          refine ⟨rfl, ?_, fun i hi => ?_⟩
          · exact jw [2]
          · repeat' ((conv => whnf); (first | refine k0 ?_ | refine jA fun _ => ?_ | refine jB fun _ => ?_ | refine kC (fun _ => ?_) fun _ => ?_ | (apply cx142; refine kl tx142 ?_) | (apply cx98; refine kl tx98 ?_) | (apply cx153; refine kl tx153 ?_) | (apply cx63; refine kl tx63 ?_) | refine jst ?_ | exact ⟨rfl, rfl⟩ | exact jV | fail))
            conv => whnf
            refine loopk (ι := Nat) (fun i => i = 0) (fun i => 0) (0) [0, 2, 5, 6, 7, 9, 14] (fun i => []) [none, none, none, none, none, none] ?_
            refine ⟨rfl, ?_, fun i hi => ?_⟩
            · exact jw [2]
            · repeat' ((conv => whnf); (first | (apply cx63; refine kl (tx63 (x := ⟨false, ks, [], []⟩)) ?_) | refine k0 ?_ | refine jA fun _ => ?_ | refine jB fun _ => ?_ | refine kC (fun _ => ?_) fun _ => ?_ | (apply cx142; refine kl tx142 ?_) | (apply cx98; refine kl tx98 ?_) | (apply cx153; refine kl tx153 ?_) | (apply cx63; refine kl tx63 ?_) | refine jst ?_ | exact ⟨rfl, rfl⟩ | exact jV | fail))
              all_goals exact ⟨by rw [gN_no hno]; rfl, rfl⟩
        · have hR := f3 rfl
          have hpl := hR.ple
          have hl2 := gT_len (b := b) (p := p)
          by_cases hlt : ks.length < (gU b (gU b 0).2.1).1
          · repeat' ((conv => whnf); (first | refine jap (apS ?_) | refine k0 ?_ | refine jA fun _ => ?_ | refine jB fun _ => ?_ | refine kC (fun _ => ?_) fun _ => ?_ | (apply cx142; refine kl tx142 ?_) | (apply cx98; refine kl tx98 ?_) | (apply cx153; refine kl tx153 ?_) | (apply cx63; refine kl tx63 ?_) | refine jst ?_ | exact ⟨rfl, rfl⟩ | exact jV | fail))
            · refine ⟨⟨(ks ++ [sb (gT b p).1], (gT b p).2.1, true), zSS_snoc f1 (by rw [sb_len]; omega), by simp; omega, fun _ => hR.step hlt ‹_›, fun h => (tf h).elim⟩, by simp; omega, ?_⟩
              exact jw [2]
            · refine ⟨⟨(ks ++ [sb (gT b p).1], (gT b p).2.1, false), zSS_snoc f1 (by rw [sb_len]; omega), by simp; omega, fun h => (ft h).elim, fun _ => hR.stop hlt ‹_›⟩, by simp; omega, ?_⟩
              exact jw [2]
          · repeat' ((conv => whnf); (first | refine k0 ?_ | refine jA fun _ => ?_ | refine jB fun _ => ?_ | refine kC (fun _ => ?_) fun _ => ?_ | (apply cx142; refine kl tx142 ?_) | (apply cx98; refine kl tx98 ?_) | (apply cx153; refine kl tx153 ?_) | (apply cx63; refine kl tx63 ?_) | refine jst ?_ | exact ⟨rfl, rfl⟩ | exact jV | fail))
            have hk2 : RdI b (gU b (gU b 0).2.1).1 ks [] p := RdI.beg hR (by omega)
            conv => whnf
            refine loopk (ι := Nat) (fun i => i = 0) (fun i => 0) (0) [0, 2, 5, 6, 7, 9, 12] (fun i => []) [none, none, none, none, none, none] ?_
            refine ⟨rfl, ?_, fun i hi => ?_⟩
            · exact jw [2]
            · repeat' ((conv => whnf); (first | refine k0 ?_ | refine jA fun _ => ?_ | refine jB fun _ => ?_ | refine kC (fun _ => ?_) fun _ => ?_ | (apply cx142; refine kl tx142 ?_) | (apply cx98; refine kl tx98 ?_) | (apply cx153; refine kl tx153 ?_) | (apply cx63; refine kl tx63 ?_) | refine jst ?_ | exact ⟨rfl, rfl⟩ | exact jV | fail))
              conv => whnf
              refine loopk (ι := List Int × Nat × Bool) (fun i => i.1.length ≤ (gU b (gU b 0).2.1).1 + 1 ∧ (i.2.2 = true → RdI b (gU b (gU b 0).2.1).1 ks i.1 i.2.1) ∧ (i.2.2 = false → NoN b)) (fun i => (gU b (gU b 0).2.1).1 + 2 - i.1.length) (([], p, true)) [0, 2, 7, 9] (fun i => [(5, .v false [i6 i.2.1]), (6, .v false [b1 i.2.2]), (14, .v false [i6 i.1.length])]) [none, none, some fun i => some (true, [b1 false, .ref 3 0 ks.length 1, .ref 4 0 0 1, .ref 5 0 i.1.length 1]), some fun _ => nE ks, some fun _ => nE ([] : List ByteArray), some fun i => nE i.1] ?_
              refine ⟨⟨by simp, fun _ => hk2, fun h => (tf h).elim⟩, ?_, fun ⟨is, p, ok⟩ hi => ?_⟩
              · exact jw [2]
              · dsimp only at hi ⊢
                obtain ⟨g2, g3, g4⟩ := hi
                have hz : zN ⟨false, ks, [], is⟩ ≤ 2000000 := by show zSS ks + (0 + 0) + is.length ≤ 2000000; omega
                cases ok
                · have hno := g4 rfl
                  repeat' ((conv => whnf); (first | (apply cx63; refine kl (tx63 (x := ⟨false, ks, [], is⟩)) ?_) | refine k0 ?_ | refine jA fun _ => ?_ | refine jB fun _ => ?_ | refine kC (fun _ => ?_) fun _ => ?_ | (apply cx142; refine kl tx142 ?_) | (apply cx98; refine kl tx98 ?_) | (apply cx153; refine kl tx153 ?_) | (apply cx63; refine kl tx63 ?_) | refine jst ?_ | exact ⟨rfl, rfl⟩ | exact jV | fail))
                  all_goals exact ⟨by rw [gN_no hno]; rfl, rfl⟩
                · have hR2 := g3 rfl
                  have hpl := hR2.ple
                  have hl2 := gU_small b p
                  by_cases hlt : is.length < (gU b (gU b 0).2.1).1 + 1
                  · repeat' ((conv => whnf); (first | refine jap (apI ?_) | refine k0 ?_ | refine jA fun _ => ?_ | refine jB fun _ => ?_ | refine kC (fun _ => ?_) fun _ => ?_ | (apply cx142; refine kl tx142 ?_) | (apply cx98; refine kl tx98 ?_) | (apply cx153; refine kl tx153 ?_) | (apply cx63; refine kl tx63 ?_) | refine jst ?_ | exact ⟨rfl, rfl⟩ | exact jV | fail))
                    · refine ⟨⟨(is ++ [((gU b p).1 : Int)], (gU b p).2.1, true), by simp; omega, fun _ => hR2.step hlt ‹_›, fun h => (tf h).elim⟩, by simp; omega, ?_⟩
                      exact jw [2]
                    · refine ⟨⟨(is ++ [((gU b p).1 : Int)], (gU b p).2.1, false), by simp; omega, fun h => (ft h).elim, fun _ => hR2.stop hlt ‹_›⟩, by simp; omega, ?_⟩
                      exact jw [2]
                  · have hfin := hR2.fin (by omega)
                    have hpos := bdN_pos ⟨false, ks, [], is⟩
                    have hnil : ([] : List UInt8).length = 0 := rfl
                    cases hn : nodOk ⟨false, ks, [], is⟩
                    · have hno : NoN b := fun x hx e => by
                        have e2 := hfin.2 x hx e
                        rw [← e2, nodOk_yes hx] at hn; cases hn
                      have hP : T 63 [.val true (nodC false ⟨false, ks, [], is⟩)] [vE ([] : List UInt8)] [none] := by
                        have h := tx63 (x := ⟨false, ks, [], is⟩)
                        rwa [if_neg (by rw [hn]; simp)] at h
                      repeat' ((conv => whnf); (first | (apply cx63; refine kl (hP) ?_) | refine k0 ?_ | refine jA fun _ => ?_ | refine jB fun _ => ?_ | refine kC (fun _ => ?_) fun _ => ?_ | (apply cx142; refine kl tx142 ?_) | (apply cx98; refine kl tx98 ?_) | (apply cx153; refine kl tx153 ?_) | (apply cx63; refine kl tx63 ?_) | refine jst ?_ | exact ⟨rfl, rfl⟩ | exact jV | fail))
                      all_goals exact ⟨by rw [gN_no hno]; rfl, rfl⟩
                    · have hP : T 63 [.val true (nodC false ⟨false, ks, [], is⟩)] [vE (bdN ⟨false, ks, [], is⟩)] [none] := by
                        have h := tx63 (x := ⟨false, ks, [], is⟩)
                        rwa [if_pos hn] at h
                      repeat' ((conv => whnf); (first | (apply cx63; refine kl (hP) ?_) | refine Exists.intro _ (Exists.intro _ (Exists.intro _ (And.intro rfl (And.intro strOf_ro ?_)))) | refine Exists.intro _ (Exists.intro _ (Exists.intro _ (And.intro (srcO (α := UInt8) rfl rfl) (And.intro strOf_cs ?_)))) | refine k0 ?_ | refine jA fun _ => ?_ | refine jB fun _ => ?_ | refine kC (fun _ => ?_) fun _ => ?_ | (apply cx142; refine kl tx142 ?_) | (apply cx98; refine kl tx98 ?_) | (apply cx153; refine kl tx153 ?_) | (apply cx63; refine kl tx63 ?_) | refine jst ?_ | exact ⟨rfl, rfl⟩ | exact jV | fail))
                      · have hno : NoN b := fun x hx e => by
                          have e2 := hfin.2 x hx e
                          subst e2
                          exact ‹_ ≠ (sb b).toList› (by rw [e])
                        exact ⟨by rw [gN_no hno]; rfl, rfl⟩
                      · exact ⟨by rw [gN_yes (nodOk_iff.1 hn) (bl_eq (Classical.not_not.1 ‹¬ (_ ≠ (sb b).toList)›))]; rfl, rfl⟩
  · have hno : NoN b := fun x hx e => hh (by
      subst e
      obtain ⟨a1, a2, a3, a4⟩ := hd_no hx
      exact ⟨a1, a3, a2, by rw [a4]; exact hx.klen⟩)
    have hz1 : zN ⟨true, [], [], []⟩ ≤ 2000000 := by decide
    have hz2 : zN ⟨false, [], [], []⟩ ≤ 2000000 := by decide
    repeat' ((conv => whnf); (first | refine k0 ?_ | refine jA fun _ => ?_ | refine jB fun _ => ?_ | refine kC (fun _ => ?_) fun _ => ?_ | (apply cx142; refine kl tx142 ?_) | (apply cx98; refine kl tx98 ?_) | (apply cx153; refine kl tx153 ?_) | (apply cx63; refine kl tx63 ?_) | refine jst ?_ | exact ⟨rfl, rfl⟩ | exact jV | fail))
    all_goals try exact (hh ⟨‹(gU b 0).2.2 = true›, ‹(gU b (gU b 0).2.1).2.2 = true›, by have := inB_iff.1 ‹inB _ 0 1 = true›; omega, by omega⟩).elim
    all_goals
      conv => whnf
      refine loopk (ι := Nat) (fun i => i = 0) (fun i => 0) (0) [0, 2, 5, 6, 7, 9, 10] (fun i => []) [none, none, none] ?_
      refine ⟨rfl, ?_, fun i hi => ?_⟩
      · exact jw []
      · repeat' ((conv => whnf); (first | refine k0 ?_ | refine jA fun _ => ?_ | refine jB fun _ => ?_ | refine kC (fun _ => ?_) fun _ => ?_ | (apply cx142; refine kl tx142 ?_) | (apply cx98; refine kl tx98 ?_) | (apply cx153; refine kl tx153 ?_) | (apply cx63; refine kl tx63 ?_) | refine jst ?_ | exact ⟨rfl, rfl⟩ | exact jV | fail))
        conv => whnf
        refine loopk (ι := Nat) (fun i => i = 0) (fun i => 0) (0) [0, 2, 5, 6, 7, 9, 12] (fun i => []) [none, none, none] ?_
        refine ⟨rfl, ?_, fun i hi => ?_⟩
        · exact jw []
        · repeat' ((conv => whnf); (first | refine k0 ?_ | refine jA fun _ => ?_ | refine jB fun _ => ?_ | refine kC (fun _ => ?_) fun _ => ?_ | (apply cx142; refine kl tx142 ?_) | (apply cx98; refine kl tx98 ?_) | (apply cx153; refine kl tx153 ?_) | (apply cx63; refine kl tx63 ?_) | refine jst ?_ | exact ⟨rfl, rfl⟩ | exact jV | fail))
          conv => whnf
          refine loopk (ι := Nat) (fun i => i = 0) (fun i => 0) (0) [0, 2, 5, 6, 7, 9, 14] (fun i => []) [none, none, none] ?_
          refine ⟨rfl, ?_, fun i hi => ?_⟩
          · exact jw []
          · repeat' ((conv => whnf); (first | refine k0 ?_ | refine jA fun _ => ?_ | refine jB fun _ => ?_ | refine kC (fun _ => ?_) fun _ => ?_ | (apply cx142; refine kl tx142 ?_) | (apply cx98; refine kl tx98 ?_) | (apply cx153; refine kl tx153 ?_) | (apply cx63; refine kl tx63 ?_) | refine jst ?_ | exact ⟨rfl, rfl⟩ | exact jV | fail))
            repeat' ((conv => whnf); (first | (apply cx63; refine kl (tx63 (x := ⟨true, [], [], []⟩)) ?_) | (apply cx63; refine kl (tx63 (x := ⟨false, [], [], []⟩)) ?_) | refine k0 ?_ | refine jA fun _ => ?_ | refine jB fun _ => ?_ | refine kC (fun _ => ?_) fun _ => ?_ | (apply cx142; refine kl tx142 ?_) | (apply cx98; refine kl tx98 ?_) | (apply cx153; refine kl tx153 ?_) | (apply cx63; refine kl tx63 ?_) | refine jst ?_ | exact ⟨rfl, rfl⟩ | exact jV | fail))
            all_goals exact ⟨by rw [gN_no hno]; rfl, rfl⟩

theorem cx133 {P : Program} {X : FuncId → List Arg → List (Bool × List Cell) → List (Option (List Cell)) → Prop} {a : List Arg} {Q : List (Bool × List Cell) → List (Option (List Cell)) → Prop} (h : ∃ b vals outs, a = b ∧ D P X (.call 133 b vals outs) ∧ Q vals outs) : CallS P X 133 a Q := ⟨h⟩

end Go.Proofs.YtkggnekdjdnhiaaGreat
