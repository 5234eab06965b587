/- What the law comes to: functions of the program, each with what it gives back, and the plain facts behind them. -/
import Derived.Test.YtddikflnjloagaaGreatDoorChecked
import Derived.IntWalk
import Derived.Test.YtddikflnjloagaaGreatDoorPf
namespace Go.Proofs.YtddikflnjloagaaGreatDoor

section
open Go Go.RowKit Go.IntWalk

open Enc (sz cs)

attribute [local irreducible] IntKind.wrap

attribute [local irreducible] frOk nmOk nmsOk bOf fstI

theorem bNt {b : Bool} (h : ¬ b = true) : b = false := by cases b with | true => exact absurd rfl h | false => rfl

theorem vI1 {b : Int} {a : Int} (h : b = a) : [(false, [Cell.prim (Value.int .i64 a)])] = [vI b] := by rw [h]

set_option maxHeartbeats 2000000 in
set_option maxRecDepth 100000 in
theorem tx61 {d : Df} (hd : zDf d ≤ 2000000 := by first | assumption | omega | (simp; done) | (simp; omega)) : T 61 [.val true (dfC false d)] [vI (cdN d)] [none] := by
  refine w_call md [] Tryz.func61 rfl ?_
  obtain ⟨q1, q2, q3, q4, q5, q6⟩ := zDf_b hd
  by_cases h1 : nmsOk d = true
  · have hN : T 98 [.val true (dfC false d)] [vB true] [none] := by
      have h := tx98 (d := d)
      rwa [h1] at h
    by_cases hl : inB (d.cols.length : Int) 1 6 = true
    · have hL : T 45 [aI d.cols.length, aI 1, aI 6] [vB true] [none, none, none] := by
        have h := tx45 (n := d.cols.length) (l := 1) (h := 6)
        rwa [hl] at h
      repeat' ((conv => whnf); (first | (apply cx98; refine kl (hN) ?_) | (apply cx45; refine kl (hL) ?_) | refine k0 ?_ | refine jA fun _ => ?_ | refine jB fun _ => ?_ | refine kC (fun _ => ?_) fun _ => ?_ | (apply cx98; refine kl tx98 ?_) | (apply cx45; refine kl tx45 ?_) | (apply cx99; refine kl tx99 ?_) | (apply cx100; refine kl tx100 ?_) | refine jst ?_ | exact ⟨rfl, rfl⟩ | exact jV | fail))
      conv => whnf
      refine loopk (ι := Nat) (fun i => i ≤ d.cols.length ∧ ∀ j (h : j < d.cols.length), j < i → inB d.cols[j].type 1 4 = true) (fun i => d.cols.length - i) (0) [1, 18, 19] (fun i => [(20, .v false [i6 i])]) [none, none] ?_
      refine ⟨⟨by omega, by intros; omega⟩, ?_, fun i hi => ?_⟩
      · exact jw []
      · repeat' ((conv => whnf); (first | refine k0 ?_ | (apply cx98; refine kl tx98 ?_) | (apply cx45; refine kl tx45 ?_) | (apply cx99; refine kl tx99 ?_) | (apply cx100; refine kl tx100 ?_) | refine jst ?_ | exact ⟨rfl, rfl⟩ | exact jV | fail))
        conv => whnf
        refine ⟨fun hlt => ?_, fun hge => ?_⟩
        · have hi2 : i < d.cols.length := by omega
          repeat' ((conv => whnf); (first | refine k0 ?_ | refine jA fun _ => ?_ | refine jB fun _ => ?_ | refine kC (fun _ => ?_) fun _ => ?_ | (apply cx98; refine kl tx98 ?_) | (apply cx45; refine kl tx45 ?_) | (apply cx99; refine kl tx99 ?_) | (apply cx100; refine kl tx100 ?_) | refine jst ?_ | exact ⟨rfl, rfl⟩ | exact jV | fail))
          · refine ⟨⟨i + 1, by omega, all_suc hi.2 hi2 ‹inB d.cols[i].type 1 4 = true›⟩, by simp only; omega, ?_⟩
            exact jw []
          · exact ⟨vI1 (cdN_2 h1 (bOf_n fun q => bft ‹inB d.cols[i].type 1 4 = false› (q.type i hi2))), rfl⟩
        · obtain rfl : i = d.cols.length := by omega
          have h2 : typOk d = true := bOf_y ⟨hl, fun j h => hi.2 j h h⟩
          by_cases h3 : oncOk d = true
          · have hT : T 99 [.val true (dfC false d)] [vB false] [none] := by
              have h := tx99 (d := d)
              rwa [h3] at h
            by_cases h4 : 2 < d.idx.length
            · repeat' ((conv => whnf); (first | (apply cx99; refine kl (hT) ?_) | refine k0 ?_ | refine jA fun _ => ?_ | refine jB fun _ => ?_ | refine kC (fun _ => ?_) fun _ => ?_ | (apply cx98; refine kl tx98 ?_) | (apply cx45; refine kl tx45 ?_) | (apply cx99; refine kl tx99 ?_) | (apply cx100; refine kl tx100 ?_) | refine jst ?_ | exact ⟨rfl, rfl⟩ | exact jV | fail))
              exact ⟨vI1 (cdN_6 h1 h2 h3 h4), rfl⟩
            · repeat' ((conv => whnf); (first | (apply cx99; refine kl (hT) ?_) | refine k0 ?_ | refine jA fun _ => ?_ | refine jB fun _ => ?_ | refine kC (fun _ => ?_) fun _ => ?_ | (apply cx98; refine kl tx98 ?_) | (apply cx45; refine kl tx45 ?_) | (apply cx99; refine kl tx99 ?_) | (apply cx100; refine kl tx100 ?_) | refine jst ?_ | exact ⟨rfl, rfl⟩ | exact jV | fail))
              conv => whnf
              refine loopk (ι := Nat) (fun i => i ≤ d.idx.length ∧ ∀ j (h : j < d.idx.length), j < i → prtOk d.cols.length d.idx[j].parts = true) (fun i => d.idx.length - i) (0) [1, 36, 37] (fun i => [(38, .v false [i6 i])]) [none, none] ?_
              refine ⟨⟨by omega, by intros; omega⟩, ?_, fun i hi => ?_⟩
              · exact jw []
              · repeat' ((conv => whnf); (first | refine k0 ?_ | (apply cx98; refine kl tx98 ?_) | (apply cx45; refine kl tx45 ?_) | (apply cx99; refine kl tx99 ?_) | (apply cx100; refine kl tx100 ?_) | refine jst ?_ | exact ⟨rfl, rfl⟩ | exact jV | fail))
                conv => whnf
                refine ⟨fun hlt => ?_, fun hge => ?_⟩
                · have hi2 : i < d.idx.length := by omega
                  have hb := (q6 i hi2).2
                  repeat' ((conv => whnf); (first | (apply cx100; refine kl (tx100 (d := d) (l := d.idx[i].parts)) ?_) | refine k0 ?_ | refine jA fun _ => ?_ | refine jB fun _ => ?_ | refine kC (fun _ => ?_) fun _ => ?_ | (apply cx98; refine kl tx98 ?_) | (apply cx45; refine kl tx45 ?_) | (apply cx99; refine kl tx99 ?_) | (apply cx100; refine kl tx100 ?_) | refine jst ?_ | exact ⟨rfl, rfl⟩ | exact jV | fail))
                  · refine ⟨⟨i + 1, by omega, all_suc hi.2 hi2 ‹prtOk _ _ = true›⟩, by simp only; omega, ?_⟩
                    exact jw []
                  · exact ⟨vI1 (cdN_5 h1 h2 h3 h4 (bOf_n fun q => bft ‹prtOk _ _ = false› (q.idx i hi2))), rfl⟩
                · obtain rfl : i = d.idx.length := by omega
                  have h5i : ∀ j (h : j < d.idx.length), prtOk d.cols.length d.idx[j].parts = true := fun j h => hi.2 j h h
                  by_cases h5p : prtOk d.cols.length d.prim = true
                  · have hpP : T 100 [.val true (dfC false d), aE d.prim] [vB true] [none, none] := by
                      have h := tx100 (d := d) (l := d.prim)
                      rwa [h5p] at h
                    repeat' ((conv => whnf); (first | (apply cx100; refine kl (hpP) ?_) | refine k0 ?_ | refine jA fun _ => ?_ | refine jB fun _ => ?_ | refine kC (fun _ => ?_) fun _ => ?_ | (apply cx98; refine kl tx98 ?_) | (apply cx45; refine kl tx45 ?_) | (apply cx99; refine kl tx99 ?_) | (apply cx100; refine kl tx100 ?_) | refine jst ?_ | exact ⟨rfl, rfl⟩ | exact jV | fail))
                    have hP := bOf_t h5p
                    have hpc : ∀ i (h : i < d.prim.length), 0 ≤ d.prim[i].col ∧ d.prim[i].col.toNat < d.cols.length := fun i h => by
                      have := inB_iff.1 (hP.prt i h).1
                      omega
                    conv => whnf
                    refine loopk (ι := Nat) (fun i => i ≤ d.prim.length ∧ ∀ j (h : j < d.prim.length), j < i → ¬ nulI d j h) (fun i => d.prim.length - i) (0) [1, 54, 55] (fun i => [(56, .v false [i6 i])]) [none, none] ?_
                    refine ⟨⟨by omega, by intros; omega⟩, ?_, fun a ha => ?_⟩
                    · exact jw []
                    · repeat' ((conv => whnf); (first | refine k0 ?_ | (apply cx98; refine kl tx98 ?_) | (apply cx45; refine kl tx45 ?_) | (apply cx99; refine kl tx99 ?_) | (apply cx100; refine kl tx100 ?_) | refine jst ?_ | exact ⟨rfl, rfl⟩ | exact jV | fail))
                      conv => whnf
                      refine ⟨fun hlt => ?_, fun hge => ?_⟩
                      · have ha2 : a < d.prim.length := by omega
                        obtain ⟨hp1, hp2⟩ := hpc a ha2
                        repeat' ((conv => whnf); (first | refine And.intro ⟨by omega, by omega⟩ (Exists.intro _ (And.intro (rdI (i := d.prim[a].col.toNat) (by omega) (by omega)) ?_)) | refine k0 ?_ | refine jA fun _ => ?_ | refine jB fun _ => ?_ | refine kC (fun _ => ?_) fun _ => ?_ | (apply cx98; refine kl tx98 ?_) | (apply cx45; refine kl tx45 ?_) | (apply cx99; refine kl tx99 ?_) | (apply cx100; refine kl tx100 ?_) | refine jst ?_ | exact ⟨rfl, rfl⟩ | exact jV | fail))
                        cases hv : d.cols[d.prim[a].col.toNat].null
                        · repeat' ((conv => whnf); (first | refine k0 ?_ | refine jA fun _ => ?_ | refine jB fun _ => ?_ | refine kC (fun _ => ?_) fun _ => ?_ | (apply cx98; refine kl tx98 ?_) | (apply cx45; refine kl tx45 ?_) | (apply cx99; refine kl tx99 ?_) | (apply cx100; refine kl tx100 ?_) | refine jst ?_ | exact ⟨rfl, rfl⟩ | exact jV | fail))
                          refine ⟨⟨a + 1, by omega, all_suc ha.2 ha2 (fun q => by
                            obtain ⟨_, q⟩ := q
                            exact bft hv q)⟩, by simp only; omega, ?_⟩
                          exact jw []
                        · repeat' ((conv => whnf); (first | refine k0 ?_ | refine jA fun _ => ?_ | refine jB fun _ => ?_ | refine kC (fun _ => ?_) fun _ => ?_ | (apply cx98; refine kl tx98 ?_) | (apply cx45; refine kl tx45 ?_) | (apply cx99; refine kl tx99 ?_) | (apply cx100; refine kl tx100 ?_) | refine jst ?_ | exact ⟨rfl, rfl⟩ | exact jV | fail))
                          exact ⟨vI1 (cdN_4 h1 h2 h3 h4 (bOf_y ⟨h5i, h5p⟩) ⟨a, ha2, hp2, hv⟩), rfl⟩
                      · obtain rfl : a = d.prim.length := by omega
                        repeat' ((conv => whnf); (first | refine k0 ?_ | refine jA fun _ => ?_ | refine jB fun _ => ?_ | refine kC (fun _ => ?_) fun _ => ?_ | (apply cx98; refine kl tx98 ?_) | (apply cx45; refine kl tx45 ?_) | (apply cx99; refine kl tx99 ?_) | (apply cx100; refine kl tx100 ?_) | refine jst ?_ | exact ⟨rfl, rfl⟩ | exact jV | fail))
                        exact ⟨vI1 (cdN_0 h1 h2 h3 h4 (bOf_y ⟨h5i, h5p⟩) (fun q => by
                          obtain ⟨i, hi, q⟩ := q
                          exact ha.2 i hi hi q)), rfl⟩
                  · have hpP : T 100 [.val true (dfC false d), aE d.prim] [vB false] [none, none] := by
                      have h := tx100 (d := d) (l := d.prim)
                      rwa [bNt h5p] at h
                    repeat' ((conv => whnf); (first | (apply cx100; refine kl (hpP) ?_) | refine k0 ?_ | refine jA fun _ => ?_ | refine jB fun _ => ?_ | refine kC (fun _ => ?_) fun _ => ?_ | (apply cx98; refine kl tx98 ?_) | (apply cx45; refine kl tx45 ?_) | (apply cx99; refine kl tx99 ?_) | (apply cx100; refine kl tx100 ?_) | refine jst ?_ | exact ⟨rfl, rfl⟩ | exact jV | fail))
                    exact ⟨vI1 (cdN_5 h1 h2 h3 h4 (bOf_n fun q => h5p q.prim)), rfl⟩
          · have hT : T 99 [.val true (dfC false d)] [vB true] [none] := by
              have h := tx99 (d := d)
              rwa [bNt h3] at h
            repeat' ((conv => whnf); (first | (apply cx99; refine kl (hT) ?_) | refine k0 ?_ | refine jA fun _ => ?_ | refine jB fun _ => ?_ | refine kC (fun _ => ?_) fun _ => ?_ | (apply cx98; refine kl tx98 ?_) | (apply cx45; refine kl tx45 ?_) | (apply cx99; refine kl tx99 ?_) | (apply cx100; refine kl tx100 ?_) | refine jst ?_ | exact ⟨rfl, rfl⟩ | exact jV | fail))
            exact ⟨vI1 (cdN_3 h1 h2 (bNt h3)), rfl⟩
    · have hL : T 45 [aI d.cols.length, aI 1, aI 6] [vB false] [none, none, none] := by
        have h := tx45 (n := d.cols.length) (l := 1) (h := 6)
        rwa [bNt hl] at h
      repeat' ((conv => whnf); (first | (apply cx98; refine kl (hN) ?_) | (apply cx45; refine kl (hL) ?_) | refine k0 ?_ | refine jA fun _ => ?_ | refine jB fun _ => ?_ | refine kC (fun _ => ?_) fun _ => ?_ | (apply cx98; refine kl tx98 ?_) | (apply cx45; refine kl tx45 ?_) | (apply cx99; refine kl tx99 ?_) | (apply cx100; refine kl tx100 ?_) | refine jst ?_ | exact ⟨rfl, rfl⟩ | exact jV | fail))
      exact ⟨vI1 (cdN_2 h1 (bOf_n fun q => hl q.len)), rfl⟩
  · have hN : T 98 [.val true (dfC false d)] [vB false] [none] := by
      have h := tx98 (d := d)
      rwa [bNt h1] at h
    repeat' ((conv => whnf); (first | (apply cx98; refine kl (hN) ?_) | refine k0 ?_ | refine jA fun _ => ?_ | refine jB fun _ => ?_ | refine kC (fun _ => ?_) fun _ => ?_ | (apply cx98; refine kl tx98 ?_) | (apply cx45; refine kl tx45 ?_) | (apply cx99; refine kl tx99 ?_) | (apply cx100; refine kl tx100 ?_) | refine jst ?_ | exact ⟨rfl, rfl⟩ | exact jV | fail))
    exact ⟨vI1 (cdN_1 (bNt h1)), rfl⟩

theorem cx61 {P : Program} {X : FuncId → List Arg → List (Bool × List Cell) → List (Option (List Cell)) → Prop} {a : List Arg} {Q : List (Bool × List Cell) → List (Option (List Cell)) → Prop} (h : ∃ b vals outs, a = b ∧ D P X (.call 61 b vals outs) ∧ Q vals outs) : CallS P X 61 a Q := ⟨h⟩

set_option maxHeartbeats 2000000 in
set_option maxRecDepth 100000 in
theorem tx40 {d : Df} (hd : zDf d ≤ 2000000 := by first | assumption | omega | (simp; done) | (simp; omega)) : T 40 [.val true (dfC false d)] [vI (cdN d)] [none] := by
  refine w_call md [] Tryz.func40 rfl ?_
  obtain ⟨q1, q2, q3, q4, q5, q6⟩ := zDf_b hd
  by_cases h1 : nmsOk d = true
  · skip
    have hN : T 75 [.val true (dfC false d)] [vB true] [none] := by
      have h := tx75 (d := d)
      rwa [h1] at h
    by_cases h2 : typOk d = true
    · skip
      have hT : T 76 [.val true (dfC false d)] [vB true] [none] := by
        have h := tx76 (d := d)
        rwa [h2] at h
      by_cases h3 : oncOk d = true
      · skip
        have hO : T 77 [.val true (dfC false d)] [vB true] [none] := by
          have h := tx77 (d := d)
          rwa [h3] at h
        by_cases h4 : 2 < d.idx.length
        · repeat' ((conv => whnf); (first | (apply cx75; refine kl (hN) ?_) | (apply cx76; refine kl (hT) ?_) | (apply cx77; refine kl (hO) ?_) | refine k0 ?_ | refine jA fun _ => ?_ | refine jB fun _ => ?_ | refine kC (fun _ => ?_) fun _ => ?_ | (apply cx75; refine kl tx75 ?_) | (apply cx76; refine kl tx76 ?_) | (apply cx77; refine kl tx77 ?_) | (apply cx78; refine kl tx78 ?_) | refine jst ?_ | exact ⟨rfl, rfl⟩ | exact jV | fail))
          exact ⟨vI1 (cdN_6 h1 h2 h3 h4), rfl⟩
        · by_cases h5 : allOk d = true
          · skip
            have hA : T 78 [.val true (dfC false d)] [vB true] [none] := by
              have h := tx78 (d := d)
              rwa [h5] at h
            have h5i := (bOf_t h5).idx
            have h5p := (bOf_t h5).prim
            repeat' ((conv => whnf); (first | (apply cx75; refine kl (hN) ?_) | (apply cx76; refine kl (hT) ?_) | (apply cx77; refine kl (hO) ?_) | (apply cx78; refine kl (hA) ?_) | refine k0 ?_ | refine jA fun _ => ?_ | refine jB fun _ => ?_ | refine kC (fun _ => ?_) fun _ => ?_ | (apply cx75; refine kl tx75 ?_) | (apply cx76; refine kl tx76 ?_) | (apply cx77; refine kl tx77 ?_) | (apply cx78; refine kl tx78 ?_) | refine jst ?_ | exact ⟨rfl, rfl⟩ | exact jV | fail))
            have hP := bOf_t h5p
            have hpc : ∀ i (h : i < d.prim.length), 0 ≤ d.prim[i].col ∧ d.prim[i].col.toNat < d.cols.length := fun i h => by
              have := inB_iff.1 (hP.prt i h).1
              omega
            conv => whnf
            refine loopk (ι := Nat) (fun i => i ≤ d.prim.length ∧ ∀ j (h : j < d.prim.length), j < i → ¬ nulI d j h) (fun i => d.prim.length - i) (0) [1] (fun i => [(3, .v false [i6 i])]) [none, none] ?_
            refine ⟨⟨by omega, by intros; omega⟩, ?_, fun a ha => ?_⟩
            · exact jw []
            · repeat' ((conv => whnf); (first | refine k0 ?_ | (apply cx75; refine kl tx75 ?_) | (apply cx76; refine kl tx76 ?_) | (apply cx77; refine kl tx77 ?_) | (apply cx78; refine kl tx78 ?_) | refine jst ?_ | exact ⟨rfl, rfl⟩ | exact jV | fail))
              conv => whnf
              refine ⟨fun hlt => ?_, fun hge => ?_⟩
              · have ha2 : a < d.prim.length := by omega
                obtain ⟨hp1, hp2⟩ := hpc a ha2
                repeat' ((conv => whnf); (first | refine And.intro ⟨by omega, by omega⟩ (Exists.intro _ (And.intro (rdI (i := d.prim[a].col.toNat) (by omega) (by omega)) ?_)) | refine k0 ?_ | refine jA fun _ => ?_ | refine jB fun _ => ?_ | refine kC (fun _ => ?_) fun _ => ?_ | (apply cx75; refine kl tx75 ?_) | (apply cx76; refine kl tx76 ?_) | (apply cx77; refine kl tx77 ?_) | (apply cx78; refine kl tx78 ?_) | refine jst ?_ | exact ⟨rfl, rfl⟩ | exact jV | fail))
                cases hv : d.cols[d.prim[a].col.toNat].null
                · repeat' ((conv => whnf); (first | refine k0 ?_ | refine jA fun _ => ?_ | refine jB fun _ => ?_ | refine kC (fun _ => ?_) fun _ => ?_ | (apply cx75; refine kl tx75 ?_) | (apply cx76; refine kl tx76 ?_) | (apply cx77; refine kl tx77 ?_) | (apply cx78; refine kl tx78 ?_) | refine jst ?_ | exact ⟨rfl, rfl⟩ | exact jV | fail))
                  refine ⟨⟨a + 1, by omega, all_suc ha.2 ha2 (fun q => by
                    obtain ⟨_, q⟩ := q
                    exact bft hv q)⟩, by simp only; omega, ?_⟩
                  exact jw []
                · repeat' ((conv => whnf); (first | refine k0 ?_ | refine jA fun _ => ?_ | refine jB fun _ => ?_ | refine kC (fun _ => ?_) fun _ => ?_ | (apply cx75; refine kl tx75 ?_) | (apply cx76; refine kl tx76 ?_) | (apply cx77; refine kl tx77 ?_) | (apply cx78; refine kl tx78 ?_) | refine jst ?_ | exact ⟨rfl, rfl⟩ | exact jV | fail))
                  exact ⟨vI1 (cdN_4 h1 h2 h3 h4 (bOf_y ⟨h5i, h5p⟩) ⟨a, ha2, hp2, hv⟩), rfl⟩
              · obtain rfl : a = d.prim.length := by omega
                repeat' ((conv => whnf); (first | refine k0 ?_ | refine jA fun _ => ?_ | refine jB fun _ => ?_ | refine kC (fun _ => ?_) fun _ => ?_ | (apply cx75; refine kl tx75 ?_) | (apply cx76; refine kl tx76 ?_) | (apply cx77; refine kl tx77 ?_) | (apply cx78; refine kl tx78 ?_) | refine jst ?_ | exact ⟨rfl, rfl⟩ | exact jV | fail))
                exact ⟨vI1 (cdN_0 h1 h2 h3 h4 (bOf_y ⟨h5i, h5p⟩) (fun q => by
                  obtain ⟨i, hi, q⟩ := q
                  exact ha.2 i hi hi q)), rfl⟩
          · skip
            have hA : T 78 [.val true (dfC false d)] [vB false] [none] := by
              have h := tx78 (d := d)
              rwa [bNt h5] at h
            repeat' ((conv => whnf); (first | (apply cx75; refine kl (hN) ?_) | (apply cx76; refine kl (hT) ?_) | (apply cx77; refine kl (hO) ?_) | (apply cx78; refine kl (hA) ?_) | refine k0 ?_ | refine jA fun _ => ?_ | refine jB fun _ => ?_ | refine kC (fun _ => ?_) fun _ => ?_ | (apply cx75; refine kl tx75 ?_) | (apply cx76; refine kl tx76 ?_) | (apply cx77; refine kl tx77 ?_) | (apply cx78; refine kl tx78 ?_) | refine jst ?_ | exact ⟨rfl, rfl⟩ | exact jV | fail))
            exact ⟨vI1 (cdN_5 h1 h2 h3 h4 (bNt h5)), rfl⟩
      · skip
        have hO : T 77 [.val true (dfC false d)] [vB false] [none] := by
          have h := tx77 (d := d)
          rwa [bNt h3] at h
        repeat' ((conv => whnf); (first | (apply cx75; refine kl (hN) ?_) | (apply cx76; refine kl (hT) ?_) | (apply cx77; refine kl (hO) ?_) | refine k0 ?_ | refine jA fun _ => ?_ | refine jB fun _ => ?_ | refine kC (fun _ => ?_) fun _ => ?_ | (apply cx75; refine kl tx75 ?_) | (apply cx76; refine kl tx76 ?_) | (apply cx77; refine kl tx77 ?_) | (apply cx78; refine kl tx78 ?_) | refine jst ?_ | exact ⟨rfl, rfl⟩ | exact jV | fail))
        exact ⟨vI1 (cdN_3 h1 h2 (bNt h3)), rfl⟩
    · skip
      have hT : T 76 [.val true (dfC false d)] [vB false] [none] := by
        have h := tx76 (d := d)
        rwa [bNt h2] at h
      repeat' ((conv => whnf); (first | (apply cx75; refine kl (hN) ?_) | (apply cx76; refine kl (hT) ?_) | refine k0 ?_ | refine jA fun _ => ?_ | refine jB fun _ => ?_ | refine kC (fun _ => ?_) fun _ => ?_ | (apply cx75; refine kl tx75 ?_) | (apply cx76; refine kl tx76 ?_) | (apply cx77; refine kl tx77 ?_) | (apply cx78; refine kl tx78 ?_) | refine jst ?_ | exact ⟨rfl, rfl⟩ | exact jV | fail))
      exact ⟨vI1 (cdN_2 h1 (bNt h2)), rfl⟩
  · skip
    have hN : T 75 [.val true (dfC false d)] [vB false] [none] := by
      have h := tx75 (d := d)
      rwa [bNt h1] at h
    repeat' ((conv => whnf); (first | (apply cx75; refine kl (hN) ?_) | refine k0 ?_ | refine jA fun _ => ?_ | refine jB fun _ => ?_ | refine kC (fun _ => ?_) fun _ => ?_ | (apply cx75; refine kl tx75 ?_) | (apply cx76; refine kl tx76 ?_) | (apply cx77; refine kl tx77 ?_) | (apply cx78; refine kl tx78 ?_) | refine jst ?_ | exact ⟨rfl, rfl⟩ | exact jV | fail))
    exact ⟨vI1 (cdN_1 (bNt h1)), rfl⟩

theorem cx40 {P : Program} {X : FuncId → List Arg → List (Bool × List Cell) → List (Option (List Cell)) → Prop} {a : List Arg} {Q : List (Bool × List Cell) → List (Option (List Cell)) → Prop} (h : ∃ b vals outs, a = b ∧ D P X (.call 40 b vals outs) ∧ Q vals outs) : CallS P X 40 a Q := ⟨h⟩
end

section
open Go Go.RowKit Go.IntWalk

open Enc (sz cs)

attribute [local irreducible] IntKind.wrap

attribute [local irreducible] cdN fstI

theorem zSc_b {s : List Df} (h : zSc s ≤ 2000000) : s.length ≤ 2000000 ∧ ∀ i (h : i < s.length), zDf s[i] ≤ 2000000 := by
  unfold zSc at h
  refine ⟨by omega, fun i hi => ?_⟩
  have := cnt_mem (c := zDf) (List.getElem_mem hi)
  omega

theorem all_s {p : Nat → Prop} {i : Nat} (h : ∀ j, j < i → p j) (hi : p i) : ∀ j, j < i + 1 → p j := fun j hj => by
  by_cases e : j = i
  · subst e; exact hi
  · exact h j (by omega)

theorem badP_a {s : List Df} {a : Nat} (ha : a < s.length) (h3 : ¬ 3 ≤ a) (hc : cdN s[a] = 0) (hn : ∀ j (hj : j < a), s[j].name ≠ s[a].name) : ¬ badP s a := fun q => by
  rcases q with q | ⟨_, q | ⟨j, hj, q⟩⟩
  · exact h3 q
  · exact q hc
  · exact hn j hj q

set_option maxHeartbeats 2000000 in
set_option maxRecDepth 100000 in
theorem tx59 {s : List Df} (hs : zSc s ≤ 2000000 := by first | assumption | omega | (simp; done) | (simp; omega)) : T 59 [aE s] [vI (fbN s)] [none] := by
  refine w_call md [] Tryz.func59 rfl ?_
  obtain ⟨q1, q2⟩ := zSc_b hs
  repeat' ((conv => whnf); (first | refine k0 ?_ | refine jA fun _ => ?_ | refine jB fun _ => ?_ | refine kC (fun _ => ?_) fun _ => ?_ | (apply cx61; refine kl tx61 ?_) | refine jst ?_ | exact ⟨rfl, rfl⟩ | exact jV | fail))
  conv => whnf
  refine loopk (ι := Nat) (fun i => i ≤ s.length ∧ ∀ j, j < i → ¬ badP s j) (fun i => s.length - i) (0) [0, 7, 8] (fun i => [(9, .v false [i6 i])]) [none] ?_
  refine ⟨⟨by omega, by intros; omega⟩, ?_, fun a ha => ?_⟩
  · exact jw []
  · repeat' ((conv => whnf); (first | refine k0 ?_ | (apply cx61; refine kl tx61 ?_) | refine jst ?_ | exact ⟨rfl, rfl⟩ | exact jV | fail))
    conv => whnf
    refine ⟨fun hlt => ?_, fun hge => ?_⟩
    · have ha2 : a < s.length := by omega
      have hz := q2 a ha2
      have htk : (s.take a).length = a := by rw [List.length_take]; omega
      by_cases h3 : 3 ≤ a
      · repeat' ((conv => whnf); (first | refine k0 ?_ | refine jA fun _ => ?_ | refine jB fun _ => ?_ | refine kC (fun _ => ?_) fun _ => ?_ | (apply cx61; refine kl tx61 ?_) | refine jst ?_ | exact ⟨rfl, rfl⟩ | exact jV | fail))
        exact ⟨vI1 (fstI_at ha2 (.inl h3) ha.2), rfl⟩
      · by_cases hc : cdN s[a] = 0
        · have hC : T 61 [.val true (dfC false s[a])] [vI 0] [none] := by
            have h := tx61 (d := s[a])
            rwa [hc] at h
          repeat' ((conv => whnf); (first | (apply cx61; refine kl (hC) ?_) | refine Exists.intro _ (Exists.intro _ (Exists.intro _ (And.intro rfl (And.intro bndN (And.intro (sl_to (by omega)) ?_))))) | refine k0 ?_ | refine jA fun _ => ?_ | refine jB fun _ => ?_ | refine kC (fun _ => ?_) fun _ => ?_ | (apply cx61; refine kl tx61 ?_) | refine jst ?_ | exact ⟨rfl, rfl⟩ | exact jV | fail))
          conv => whnf
          refine loopk (ι := Nat) (fun i => i ≤ a ∧ ∀ k (hk : k < a), k < i → s[k].name ≠ s[a].name) (fun i => a - i) (0) [0, 3, 4, 7, 8, 9, 24, 25] (fun i => [(26, .v false [i6 i])]) [none, none] ?_
          refine ⟨⟨by omega, by intros; omega⟩, ?_, fun b hb => ?_⟩
          · exact jw []
          · repeat' ((conv => whnf); (first | refine k0 ?_ | (apply cx61; refine kl tx61 ?_) | refine jst ?_ | exact ⟨rfl, rfl⟩ | exact jV | fail))
            conv => whnf
            refine ⟨fun hlt => ?_, fun hge => ?_⟩
            · have hb2 : b < (s.take a).length := by omega
              have hb3 : b < a := by omega
              have eg : (s.take a)[b] = s[b] := List.getElem_take
              repeat' ((conv => whnf); (first | refine k0 ?_ | refine jA fun _ => ?_ | refine jB fun _ => ?_ | refine kC (fun _ => ?_) fun _ => ?_ | (apply cx61; refine kl tx61 ?_) | refine jst ?_ | exact ⟨rfl, rfl⟩ | exact jV | fail))
              · have e : s[b].name = s[a].name := by rw [← eg]; exact ba_eq ‹_›
                exact ⟨vI1 (fstI_at ha2 (.inr ⟨ha2, .inr ⟨b, hb3, e⟩⟩) ha.2), rfl⟩
              · have e : s[b].name ≠ s[a].name := fun e => absurd (congrArg ByteArray.toList e) (by rw [← eg]; assumption)
                refine ⟨⟨b + 1, by omega, all_suc hb.2 hb3 e⟩, by simp only; omega, ?_⟩
                exact jw []
            · obtain rfl : b = a := by omega
              repeat' ((conv => whnf); (first | refine k0 ?_ | refine jA fun _ => ?_ | refine jB fun _ => ?_ | refine kC (fun _ => ?_) fun _ => ?_ | (apply cx61; refine kl tx61 ?_) | refine jst ?_ | exact ⟨rfl, rfl⟩ | exact jV | fail))
              refine ⟨⟨b + 1, by omega, all_s ha.2 (badP_a ha2 h3 hc (fun k hk => hb.2 k hk hk))⟩, by simp only; omega, ?_⟩
              exact jw []
        · repeat' ((conv => whnf); (first | (apply cx61; refine kl (tx61 (d := s[a])) ?_) | refine k0 ?_ | refine jA fun _ => ?_ | refine jB fun _ => ?_ | refine kC (fun _ => ?_) fun _ => ?_ | (apply cx61; refine kl tx61 ?_) | refine jst ?_ | exact ⟨rfl, rfl⟩ | exact jV | fail))
          exact ⟨vI1 (fstI_at ha2 (.inr ⟨ha2, .inl hc⟩) ha.2), rfl⟩
    · obtain rfl : a = s.length := by omega
      repeat' ((conv => whnf); (first | refine k0 ?_ | refine jA fun _ => ?_ | refine jB fun _ => ?_ | refine kC (fun _ => ?_) fun _ => ?_ | (apply cx61; refine kl tx61 ?_) | refine jst ?_ | exact ⟨rfl, rfl⟩ | exact jV | fail))
      exact ⟨vI1 (fstI_no ha.2), rfl⟩

theorem cx59 {P : Program} {X : FuncId → List Arg → List (Bool × List Cell) → List (Option (List Cell)) → Prop} {a : List Arg} {Q : List (Bool × List Cell) → List (Option (List Cell)) → Prop} (h : ∃ b vals outs, a = b ∧ D P X (.call 59 b vals outs) ∧ Q vals outs) : CallS P X 59 a Q := ⟨h⟩

set_option maxHeartbeats 2000000 in
set_option maxRecDepth 100000 in
theorem tx29 {s : List Df} (hs : zSc s ≤ 2000000 := by first | assumption | omega | (simp; done) | (simp; omega)) : T 29 [aE s] [vI (fbN s)] [none] := by
  refine w_call md [] Tryz.func29 rfl ?_
  obtain ⟨q1, q2⟩ := zSc_b hs
  repeat' ((conv => whnf); (first | refine k0 ?_ | refine jA fun _ => ?_ | refine jB fun _ => ?_ | refine kC (fun _ => ?_) fun _ => ?_ | (apply cx40; refine kl tx40 ?_) | refine jst ?_ | exact ⟨rfl, rfl⟩ | exact jV | fail))
  conv => whnf
  refine loopk (ι := Nat) (fun i => i ≤ s.length ∧ ∀ j, j < i → ¬ badP s j) (fun i => s.length - i) (0) [0] (fun i => [(3, .v false [i6 i])]) [none] ?_
  refine ⟨⟨by omega, by intros; omega⟩, ?_, fun a ha => ?_⟩
  · exact jw []
  · repeat' ((conv => whnf); (first | refine k0 ?_ | (apply cx40; refine kl tx40 ?_) | refine jst ?_ | exact ⟨rfl, rfl⟩ | exact jV | fail))
    conv => whnf
    refine ⟨fun hlt => ?_, fun hge => ?_⟩
    · have ha2 : a < s.length := by omega
      have hz := q2 a ha2
      by_cases hc : cdN s[a] = 0
      · have hC : T 40 [.val true (dfC false s[a])] [vI 0] [none] := by
          have h := tx40 (d := s[a])
          rwa [hc] at h
        by_cases h3 : 3 ≤ a
        · repeat' ((conv => whnf); (first | (apply cx40; refine kl (hC) ?_) | refine k0 ?_ | refine jA fun _ => ?_ | refine jB fun _ => ?_ | refine kC (fun _ => ?_) fun _ => ?_ | (apply cx40; refine kl tx40 ?_) | refine jst ?_ | exact ⟨rfl, rfl⟩ | exact jV | fail))
          exact ⟨vI1 (fstI_at ha2 (.inl h3) ha.2), rfl⟩
        · repeat' ((conv => whnf); (first | (apply cx40; refine kl (hC) ?_) | refine k0 ?_ | refine jA fun _ => ?_ | refine jB fun _ => ?_ | refine kC (fun _ => ?_) fun _ => ?_ | (apply cx40; refine kl tx40 ?_) | refine jst ?_ | exact ⟨rfl, rfl⟩ | exact jV | fail))
          conv => whnf
          refine loopk (ι := Nat) (fun i => i ≤ a ∧ ∀ k (hk : k < a), k < i → s[k].name ≠ s[a].name) (fun i => a - i) (0) [0, 3] (fun i => [(4, .v false [i6 i])]) [none] ?_
          refine ⟨⟨by omega, by intros; omega⟩, ?_, fun b hb => ?_⟩
          · exact jw []
          · repeat' ((conv => whnf); (first | refine k0 ?_ | (apply cx40; refine kl tx40 ?_) | refine jst ?_ | exact ⟨rfl, rfl⟩ | exact jV | fail))
            conv => whnf
            refine ⟨fun hlt => ?_, fun hge => ?_⟩
            · have hb2 : b < s.length := by omega
              have hb3 : b < a := by omega
              repeat' ((conv => whnf); (first | refine k0 ?_ | refine jA fun _ => ?_ | refine jB fun _ => ?_ | refine kC (fun _ => ?_) fun _ => ?_ | (apply cx40; refine kl tx40 ?_) | refine jst ?_ | exact ⟨rfl, rfl⟩ | exact jV | fail))
              · exact ⟨vI1 (fstI_at ha2 (.inr ⟨ha2, .inr ⟨b, hb3, ba_eq ‹_›⟩⟩) ha.2), rfl⟩
              · refine ⟨⟨b + 1, by omega, all_suc hb.2 hb3 (fun e => absurd (congrArg ByteArray.toList e) ‹_›)⟩, by simp only; omega, ?_⟩
                exact jw []
            · obtain rfl : b = a := by omega
              repeat' ((conv => whnf); (first | refine k0 ?_ | refine jA fun _ => ?_ | refine jB fun _ => ?_ | refine kC (fun _ => ?_) fun _ => ?_ | (apply cx40; refine kl tx40 ?_) | refine jst ?_ | exact ⟨rfl, rfl⟩ | exact jV | fail))
              refine ⟨⟨b + 1, by omega, all_s ha.2 (badP_a ha2 h3 hc (fun k hk => hb.2 k hk hk))⟩, by simp only; omega, ?_⟩
              exact jw []
      · repeat' ((conv => whnf); (first | (apply cx40; refine kl (tx40 (d := s[a])) ?_) | refine k0 ?_ | refine jA fun _ => ?_ | refine jB fun _ => ?_ | refine kC (fun _ => ?_) fun _ => ?_ | (apply cx40; refine kl tx40 ?_) | refine jst ?_ | exact ⟨rfl, rfl⟩ | exact jV | fail))
        exact ⟨vI1 (fstI_at ha2 (.inr ⟨ha2, .inl hc⟩) ha.2), rfl⟩
    · obtain rfl : a = s.length := by omega
      repeat' ((conv => whnf); (first | refine k0 ?_ | refine jA fun _ => ?_ | refine jB fun _ => ?_ | refine kC (fun _ => ?_) fun _ => ?_ | (apply cx40; refine kl tx40 ?_) | refine jst ?_ | exact ⟨rfl, rfl⟩ | exact jV | fail))
      exact ⟨vI1 (fstI_no ha.2), rfl⟩

theorem cx29 {P : Program} {X : FuncId → List Arg → List (Bool × List Cell) → List (Option (List Cell)) → Prop} {a : List Arg} {Q : List (Bool × List Cell) → List (Option (List Cell)) → Prop} (h : ∃ b vals outs, a = b ∧ D P X (.call 29 b vals outs) ∧ Q vals outs) : CallS P X 29 a Q := ⟨h⟩
end

section
open Go Go.RowKit Go.IntWalk

open Enc (sz cs)

attribute [local irreducible] IntKind.wrap

attribute [local irreducible] fbN

abbrev Tbs := List (List (List Vl))

/-- Tables without rows. -/
noncomputable def mdN (s : List Df) : Tbs := if fbN s = -1 then List.replicate s.length [] else []

theorem mdN_y {s : List Df} (h : fbN s = -1) : mdN s = List.replicate s.length [] := if_pos h

theorem mdN_n {s : List Df} (h : ¬ fbN s = -1) : mdN s = [] := if_neg h

theorem rep_snoT (q : Nat) : cs true (List.replicate q ([] : List (List Vl))) ++ [slE true ([] : List (List Vl))] ++ [] = cs true (List.replicate (q + 1) ([] : List (List Vl))) := by
  rw [List.replicate_succ', Enc.app, List.append_nil]; rfl

theorem w_nlT {n : Nat} {t h nx tn} (i s' : Nat) (A C : List Cell) {cs0 cs1 : List Cell} (hi : look none h i = some (true, cs0) := by rfl) (h1 : cs0 = A ++ [.nil] ++ C := by first | rfl | simp) (h2 : A ++ [.sl true 0 s' []] ++ C = cs1 := by rfl) :
    WGh n ⟨t, h, nx, tn⟩ ⟨t, (i, some (true, cs1)) :: h, nx, tn⟩ := by
  subst h1 h2
  exact w_node i hi (CWs.app (CWs.app (CWs.refl _) (.cons .nilO .nil)) (CWs.refl _))

set_option maxHeartbeats 2000000 in
set_option maxRecDepth 100000 in
theorem tx27 {s : List Df} (hs : zSc s ≤ 2000000 := by first | assumption | omega | (simp; done) | (simp; omega)) : T 27 [aE s] [(true, [slE true (mdN s)])] [none] := by
  refine w_call md [[1]] Tryz.func27 rfl ?_
  obtain ⟨q1, q2⟩ := zSc_b hs
  by_cases h : fbN s = -1
  · rw [mdN_y h]
    have hF : T 29 [aE s] [vI (-1)] [none] := by
      have h2 := tx29 (s := s)
      rwa [h] at h2
    repeat' ((conv => whnf); (first | refine k0 ?_ | refine jA fun _ => ?_ | refine jB fun _ => ?_ | refine kC (fun _ => ?_) fun _ => ?_ | (apply cx29; refine kl tx29 ?_) | refine jst ?_ | exact ⟨rfl, rfl⟩ | exact jV | fail))
    conv => whnf
    refine loopk (ι := Nat) (fun i => i ≤ s.length) (fun i => s.length - i) (0) [0, 2] (fun i => [(3, .v false [.ptr 2 0]), (4, .v false [i6 i])]) [none, none, some fun i => some (true, [.ref 3 0 i 1]), some fun i => some (true, cs true (List.replicate i ([] : List (List Vl))))] ?_
    refine ⟨by omega, ?_, fun i hi => ?_⟩
    · exact (w_nilN 2 1 [] []).trans (jw [2])
    · by_cases hlt : i < s.length
      · repeat' ((conv => whnf); (first | (apply cx29; refine kl (hF) ?_) | refine Exists.intro _ (Exists.intro _ (And.intro rfl (And.intro ⟨by simp <;> omega, bgb (by omega), bg (by omega)⟩ (apR (xs := List.replicate i ([] : List (List Vl))) ?_)))) | refine k0 ?_ | refine jA fun _ => ?_ | refine jB fun _ => ?_ | refine kC (fun _ => ?_) fun _ => ?_ | (apply cx29; refine kl tx29 ?_) | refine jst ?_ | exact ⟨rfl, rfl⟩ | exact jV | fail))
        refine ⟨⟨i + 1, by omega⟩, by simp only; omega, (w_nlT 5 1 (cs true (List.replicate i ([] : List (List Vl)))) [] (h2 := rep_snoT i)).trans ?_⟩
        exact jw [2]
      · obtain rfl : i = s.length := by omega
        repeat' ((conv => whnf); (first | refine k0 ?_ | refine jA fun _ => ?_ | refine jB fun _ => ?_ | refine kC (fun _ => ?_) fun _ => ?_ | (apply cx29; refine kl tx29 ?_) | refine jst ?_ | exact ⟨rfl, rfl⟩ | exact jV | fail))
        exact ⟨congrArg (fun m => [(true, [Cell.sl true m 1 (cs true (List.replicate s.length ([] : List (List Vl))))])]) List.length_replicate.symm, rfl⟩
  · rw [mdN_n h]
    repeat' ((conv => whnf); (first | refine k0 ?_ | refine jA fun _ => ?_ | refine jB fun _ => ?_ | refine kC (fun _ => ?_) fun _ => ?_ | (apply cx29; refine kl tx29 ?_) | refine jst ?_ | exact ⟨rfl, rfl⟩ | exact jV | fail))
    conv => whnf
    refine loopk (ι := Nat) (fun i => i = 0) (fun i => 0) (0) [0, 2, 3] (fun i => [(4, .v false [i6 i])]) [none, none, none] ?_
    refine ⟨rfl, ?_, fun i hi => ?_⟩
    · exact jw []
    · subst hi
      by_cases hz : s.length = 0
      · repeat' ((conv => whnf); (first | refine k0 ?_ | refine jA fun _ => ?_ | refine jB fun _ => ?_ | refine kC (fun _ => ?_) fun _ => ?_ | (apply cx29; refine kl tx29 ?_) | refine jst ?_ | exact ⟨rfl, rfl⟩ | exact jV | fail))
      · repeat' ((conv => whnf); (first | (apply cx29; refine kl (tx29 (s := s)) ?_) | refine k0 ?_ | refine jA fun _ => ?_ | refine jB fun _ => ?_ | refine kC (fun _ => ?_) fun _ => ?_ | (apply cx29; refine kl tx29 ?_) | refine jst ?_ | exact ⟨rfl, rfl⟩ | exact jV | fail))

theorem cx27 {P : Program} {X : FuncId → List Arg → List (Bool × List Cell) → List (Option (List Cell)) → Prop} {a : List Arg} {Q : List (Bool × List Cell) → List (Option (List Cell)) → Prop} (h : ∃ b vals outs, a = b ∧ D P X (.call 27 b vals outs) ∧ Q vals outs) : CallS P X 27 a Q := ⟨h⟩
end

section
open Go Go.RowKit Go.IntWalk

open Enc (sz cs)

attribute [local irreducible] IntKind.wrap

attribute [local irreducible] fbN cdN fstI

theorem eqV' (a b c d : Int) (s t : ByteArray) : eqStruct Tryz.prog 71 [i6 a, i6 c, s1 s] [i6 b, i6 d, s1 t] = (match (some (a == b) : Option Bool) with | some true => (match (some (c == d) : Option Bool) with | some true => (match (some (s == t) : Option Bool) with | some true => some true | some false => some false | none => none) | some false => some false | none => none) | some false => some false | none => none) := by kernel_rfl

theorem ba_y (s : ByteArray) : (s == s) = true := by
  obtain ⟨a⟩ := s
  show (a == a) = true
  exact beq_self_eq_true a

theorem ba_n {s t : ByteArray} (h : s ≠ t) : (s == t) = false := by
  obtain ⟨a⟩ := s
  obtain ⟨b⟩ := t
  show (a == b) = false
  exact beq_eq_false_iff_ne.2 fun e => h (by rw [e])

theorem eqV_y {x y : Vl} (h : x = y) : eqStruct Tryz.prog 71 (vlC x) (vlC y) = some true := by
  subst h
  rw [eqV', beq_self_eq_true, beq_self_eq_true, ba_y]

theorem eqV_n {x y : Vl} (h : x ≠ y) : eqStruct Tryz.prog 71 (vlC x) (vlC y) = some false := by
  rw [eqV']
  obtain ⟨a, c, s⟩ := x
  obtain ⟨b, d, t⟩ := y
  simp only
  by_cases e1 : a = b
  · by_cases e2 : c = d
    · by_cases e3 : s = t
      · subst e1 e2 e3; exact absurd rfl h
      · rw [beq_iff_eq.2 e1, beq_iff_eq.2 e2, ba_n e3]
    · rw [beq_iff_eq.2 e1, beq_eq_false_iff_ne.2 e2]
  · rw [beq_eq_false_iff_ne.2 e1]

noncomputable abbrev smR (a b : List Vl) : Bool := bOf (a = b)

set_option maxRecDepth 100000 in
theorem tx20 {a b : List Vl} (ha : a.length ≤ 2000000 := by first | assumption | omega | (simp; done) | (simp; omega)) (hb : b.length ≤ 2000000 := by first | assumption | omega | (simp; done) | (simp; omega)) : T 20 [aE a, aE b] [vB (smR a b)] [none, none] := by
  refine w_call md [] Tryz.func20 rfl ?_
  by_cases hl : a.length = b.length
  · repeat' ((conv => whnf); (first | refine k0 ?_ | refine jA fun _ => ?_ | refine jB fun _ => ?_ | refine kC (fun _ => ?_) fun _ => ?_ | refine jst ?_ | exact ⟨rfl, rfl⟩ | exact jV | fail))
    conv => whnf
    refine loopk (ι := Nat) (fun i => i ≤ a.length ∧ ∀ j (h : j < a.length), j < i → a[j] = b[j]) (fun i => a.length - i) (0) [0, 1, 12] (fun i => [(13, .v false [i6 i])]) [none, none] ?_
    refine ⟨⟨by omega, by intros; omega⟩, ?_, fun i hi => ?_⟩
    · exact jw []
    · repeat' ((conv => whnf); (first | refine k0 ?_ | refine jst ?_ | exact ⟨rfl, rfl⟩ | exact jV | fail))
      conv => whnf
      refine ⟨fun hlt => ?_, fun hge => ?_⟩
      · have hi2 : i < a.length := by omega
        have hi3 : i < b.length := by omega
        by_cases e : a[i] = b[i]
        · repeat' ((conv => whnf); (first | refine ko (eqV_y e) ?_ | refine k0 ?_ | refine jA fun _ => ?_ | refine jB fun _ => ?_ | refine kC (fun _ => ?_) fun _ => ?_ | refine jst ?_ | exact ⟨rfl, rfl⟩ | exact jV | fail))
          refine ⟨⟨i + 1, by omega, all_suc hi.2 hi2 e⟩, by simp only; omega, ?_⟩
          exact jw []
        · repeat' ((conv => whnf); (first | refine ko (eqV_n e) ?_ | refine k0 ?_ | refine jA fun _ => ?_ | refine jB fun _ => ?_ | refine kC (fun _ => ?_) fun _ => ?_ | refine jst ?_ | exact ⟨rfl, rfl⟩ | exact jV | fail))
          exact ⟨vB0 (bOf_n fun q => e (by subst q; rfl)), rfl⟩
      · obtain rfl : i = a.length := by omega
        repeat' ((conv => whnf); (first | refine k0 ?_ | refine jA fun _ => ?_ | refine jB fun _ => ?_ | refine kC (fun _ => ?_) fun _ => ?_ | refine jst ?_ | exact ⟨rfl, rfl⟩ | exact jV | fail))
        exact ⟨vB1 (bOf_y (List.ext_getElem hl fun j h1 h2 => hi.2 j h1 h1)), rfl⟩
  · repeat' ((conv => whnf); (first | refine k0 ?_ | refine jA fun _ => ?_ | refine jB fun _ => ?_ | refine kC (fun _ => ?_) fun _ => ?_ | refine jst ?_ | exact ⟨rfl, rfl⟩ | exact jV | fail))
    exact ⟨vB0 (bOf_n fun e => hl (by rw [e])), rfl⟩

theorem cx20 {P : Program} {X : FuncId → List Arg → List (Bool × List Cell) → List (Option (List Cell)) → Prop} {a : List Arg} {Q : List (Bool × List Cell) → List (Option (List Cell)) → Prop} (h : ∃ b vals outs, a = b ∧ D P X (.call 20 b vals outs) ∧ Q vals outs) : CallS P X 20 a Q := ⟨h⟩

set_option maxRecDepth 100000 in
theorem tx95 {a b : List Vl} (ha : a.length ≤ 2000000 := by first | assumption | omega | (simp; done) | (simp; omega)) (hb : b.length ≤ 2000000 := by first | assumption | omega | (simp; done) | (simp; omega)) : T 95 [aE a, aE b] [vB (smR a b)] [none, none] := by
  refine w_call md [] Tryz.func95 rfl ?_
  by_cases hl : a.length = b.length
  · repeat' ((conv => whnf); (first | refine k0 ?_ | refine jA fun _ => ?_ | refine jB fun _ => ?_ | refine kC (fun _ => ?_) fun _ => ?_ | refine jst ?_ | exact ⟨rfl, rfl⟩ | exact jV | fail))
    conv => whnf
    refine loopk (ι := Nat) (fun i => i ≤ a.length ∧ ∀ j (h : j < a.length), j < i → a[j] = b[j]) (fun i => a.length - i) (0) [0, 1] (fun i => [(5, .v false [i6 i])]) [none, none] ?_
    refine ⟨⟨by omega, by intros; omega⟩, ?_, fun i hi => ?_⟩
    · exact jw []
    · repeat' ((conv => whnf); (first | refine k0 ?_ | refine jst ?_ | exact ⟨rfl, rfl⟩ | exact jV | fail))
      conv => whnf
      refine ⟨fun hlt => ?_, fun hge => ?_⟩
      · have hi2 : i < a.length := by omega
        have hi3 : i < b.length := by omega
        by_cases e : a[i] = b[i]
        · repeat' ((conv => whnf); (first | refine ko (eqV_y e) ?_ | refine k0 ?_ | refine jA fun _ => ?_ | refine jB fun _ => ?_ | refine kC (fun _ => ?_) fun _ => ?_ | refine jst ?_ | exact ⟨rfl, rfl⟩ | exact jV | fail))
          refine ⟨⟨i + 1, by omega, all_suc hi.2 hi2 e⟩, by simp only; omega, ?_⟩
          exact jw []
        · repeat' ((conv => whnf); (first | refine ko (eqV_n e) ?_ | refine k0 ?_ | refine jA fun _ => ?_ | refine jB fun _ => ?_ | refine kC (fun _ => ?_) fun _ => ?_ | refine jst ?_ | exact ⟨rfl, rfl⟩ | exact jV | fail))
          exact ⟨vB0 (bOf_n fun q => e (by subst q; rfl)), rfl⟩
      · obtain rfl : i = a.length := by omega
        repeat' ((conv => whnf); (first | refine k0 ?_ | refine jA fun _ => ?_ | refine jB fun _ => ?_ | refine kC (fun _ => ?_) fun _ => ?_ | refine jst ?_ | exact ⟨rfl, rfl⟩ | exact jV | fail))
        exact ⟨vB1 (bOf_y (List.ext_getElem hl fun j h1 h2 => hi.2 j h1 h1)), rfl⟩
  · repeat' ((conv => whnf); (first | refine k0 ?_ | refine jA fun _ => ?_ | refine jB fun _ => ?_ | refine kC (fun _ => ?_) fun _ => ?_ | refine jst ?_ | exact ⟨rfl, rfl⟩ | exact jV | fail))
    exact ⟨vB0 (bOf_n fun e => hl (by rw [e])), rfl⟩

theorem cx95 {P : Program} {X : FuncId → List Arg → List (Bool × List Cell) → List (Option (List Cell)) → Prop} {a : List Arg} {Q : List (Bool × List Cell) → List (Option (List Cell)) → Prop} (h : ∃ b vals outs, a = b ∧ D P X (.call 95 b vals outs) ∧ Q vals outs) : CallS P X 95 a Q := ⟨h⟩

abbrev v0 : Vl := ⟨0, 0, ⟨#[]⟩⟩

abbrev c0 : Cl := ⟨⟨#[]⟩, 0, false⟩

/-- A part of a table's plan. -/
def ptO (d : Df) (p : By) : Prt := ⟨p.col, (d.cols.getD p.col.toNat c0).type, (d.cols.getD p.col.toNat c0).null, p.desc⟩

theorem ptO_at {d : Df} {p : By} (h : p.col.toNat < d.cols.length) : ptO d p = ⟨p.col, d.cols[p.col.toNat].type, d.cols[p.col.toNat].null, p.desc⟩ := by
  unfold ptO; rw [List.getD_eq_getElem?_getD, List.getElem?_eq_getElem h]; rfl

def ptsO (d : Df) (l : List By) : List Prt := l.map (ptO d)

theorem ptsO_len {d : Df} {l : List By} : (ptsO d l).length = l.length := List.length_map _

theorem ptsO_take {d : Df} {l : List By} {i : Nat} (h : i < l.length) (h2 : l[i].col.toNat < d.cols.length) : (ptsO d l).take (i + 1) = (ptsO d l).take i ++ [⟨l[i].col, d.cols[l[i].col.toNat].type, d.cols[l[i].col.toNat].null, l[i].desc⟩] := by
  rw [take_one (by rw [ptsO_len]; exact h), ← ptO_at h2]
  simp only [ptsO, List.getElem_map]

theorem PrtOk.at' {n : Nat} {l : List By} (h : PrtOk n l) {i : Nat} (hi : i < l.length) : 0 ≤ l[i].col ∧ l[i].col.toNat < n := by
  have := inB_iff.1 (h.prt i hi).1
  omega

theorem cd_prt {d : Df} (h : cdN d = 0) : PrtOk d.cols.length d.prim := by
  cases h1 : nmsOk d with
  | false => rw [cdN_1 h1] at h; cases h
  | true =>
    cases h2 : typOk d with
    | false => rw [cdN_2 h1 h2] at h; cases h
    | true =>
      cases h3 : oncOk d with
      | false => rw [cdN_3 h1 h2 h3] at h; cases h
      | true =>
        by_cases h4 : 2 < d.idx.length
        · rw [cdN_6 h1 h2 h3 h4] at h; cases h
        · cases h5 : allOk d with
          | false => rw [cdN_5 h1 h2 h3 h4 h5] at h; cases h
          | true => exact bOf_t (bOf_t h5).prim

noncomputable def ppN (d : Df) : List Prt := if cdN d = 0 then ptsO d d.prim else []

theorem ppN_y {d : Df} (h : cdN d = 0) : ppN d = ptsO d d.prim := if_pos h

theorem ppN_n {d : Df} (h : ¬ cdN d = 0) : ppN d = [] := if_neg h

theorem ppN_len {d : Df} : (ppN d).length ≤ 2 := by
  by_cases h : cdN d = 0
  · rw [ppN_y h, ptsO_len]
    have := inB_iff.1 (cd_prt h).len
    omega
  · rw [ppN_n h]; exact Nat.zero_le _

def pkV (r : List Vl) (p : Prt) : Vl := if inB p.col 0 ((r.length : Int) - 1) = true then r.getD p.col.toNat v0 else v0

theorem pkV_y {r : List Vl} {p : Prt} (h : inB p.col 0 ((r.length : Int) - 1) = true) (h2 : p.col.toNat < r.length) : pkV r p = r[p.col.toNat] := by
  unfold pkV; rw [if_pos h, List.getD_eq_getElem?_getD, List.getElem?_eq_getElem h2]; rfl

theorem pkV_n {r : List Vl} {p : Prt} (h : inB p.col 0 ((r.length : Int) - 1) = false) : pkV r p = v0 := by
  unfold pkV; rw [if_neg (by rw [h]; decide)]

/-- The values of a plan's parts. -/
def pkR (l : List Prt) (r : List Vl) : List Vl := l.map (pkV r)

theorem pkR_len {l : List Prt} {r : List Vl} : (pkR l r).length = l.length := List.length_map _

theorem pkR_take {l : List Prt} {r : List Vl} {i : Nat} (h : i < l.length) {v : Vl} (hv : pkV r l[i] = v) : (pkR l r).take (i + 1) = (pkR l r).take i ++ [v] := by
  rw [take_one (by rw [pkR_len]; exact h), ← hv]
  simp only [pkR, List.getElem_map]

theorem tkl {α : Type} {l : List α} {i n : Nat} (h : l.length = n) (hi : i ≤ n) : (l.take i).length = i := by rw [List.length_take]; omega

set_option maxHeartbeats 2000000 in
set_option maxRecDepth 100000 in
theorem tx62 {d : Df} {l : List By} (hd : zDf d ≤ 2000000 := by first | assumption | omega | (simp; done) | (simp; omega)) (hp : PrtOk d.cols.length l := by first | assumption | omega | (simp; done) | (simp; omega)) : T 62 [.val true (dfC false d), aE l] [vE (ptsO d l)] [none, none] := by
  refine w_call md [] Tryz.func62 rfl ?_
  obtain ⟨q1, q2, q3, q4, q5, q6⟩ := zDf_b hd
  have hl := inB_iff.1 hp.len
  repeat' ((conv => whnf); (first | refine k0 ?_ | refine jA fun _ => ?_ | refine jB fun _ => ?_ | refine kC (fun _ => ?_) fun _ => ?_ | refine jst ?_ | exact ⟨rfl, rfl⟩ | exact jV | fail))
  conv => whnf
  refine loopk (ι := Nat) (fun i => i ≤ l.length) (fun i => l.length - i) (0) [2, 9, 10] (fun i => [(5, .v false [.ref 3 0 ((ptsO d l).take i).length 4]), (11, .v false [i6 i])]) [none, none, none, some fun i => nE ((ptsO d l).take i)] ?_
  refine ⟨by omega, ?_, fun a ha => ?_⟩
  · exact (w_virt 5 4 rfl rfl).trans (jw [])
  · have htl := tkl (l := ptsO d l) (i := a) ptsO_len ha
    repeat' ((conv => whnf); (first | refine k0 ?_ | refine jst ?_ | exact ⟨rfl, rfl⟩ | exact jV | fail))
    conv => whnf
    refine ⟨fun hlt => ?_, fun hge => ?_⟩
    · have ha2 : a < l.length := by omega
      obtain ⟨h1, h2⟩ := hp.at' ha2
      repeat' ((conv => whnf); (first | refine And.intro ⟨by omega, by omega⟩ (Exists.intro _ (And.intro (rdI (i := l[a].col.toNat) (by omega) (by omega)) ?_)) | refine jap (N := cs true ([⟨l[a].col, d.cols[l[a].col.toNat].type, d.cols[l[a].col.toNat].null, l[a].desc⟩] : List Prt)) (apE ?_) | refine k0 ?_ | refine jA fun _ => ?_ | refine jB fun _ => ?_ | refine kC (fun _ => ?_) fun _ => ?_ | refine jst ?_ | exact ⟨rfl, rfl⟩ | exact jV | fail))
      refine ⟨⟨a + 1, by omega⟩, by simp only; omega, ?_⟩
      exact w_autoX [] (by (conv => whnf); exact And.intro (by kernel_rfl) (And.intro (by kernel_rfl) (by repeat' (first | (with_reducible exact rfl) | ((conv => whnf); first | exact trivial | exact (by rw [ptsO_take ha2 h2]; exact ⟨rfl, cs_clo _, rfl⟩) | exact (by rw [ptsO_take ha2 h2]; rfl) | exact rfl | exact tvi (by first | omega | (dsimp only; omega) | (simp; done)) | exact tvr (by first | omega | (dsimp only; omega) | (simp; done) | (simp; omega)) | exact ⟨rfl, clo_i, by first | rfl | rw [List.take_length] | assumption⟩ | refine And.intro ?_ ?_)))))
    · obtain rfl : a = l.length := by omega
      have e : (ptsO d l).take l.length = ptsO d l := by rw [← ptsO_len (d := d)]; exact List.take_length
      repeat' ((conv => whnf); (first | refine k0 ?_ | refine jA fun _ => ?_ | refine jB fun _ => ?_ | refine kC (fun _ => ?_) fun _ => ?_ | refine jst ?_ | exact ⟨rfl, rfl⟩ | exact jV | fail))
      exact ⟨by rw [e]; rfl, rfl⟩

theorem cx62 {P : Program} {X : FuncId → List Arg → List (Bool × List Cell) → List (Option (List Cell)) → Prop} {a : List Arg} {Q : List (Bool × List Cell) → List (Option (List Cell)) → Prop} (h : ∃ b vals outs, a = b ∧ D P X (.call 62 b vals outs) ∧ Q vals outs) : CallS P X 62 a Q := ⟨h⟩

set_option maxRecDepth 100000 in
theorem tx79 {d : Df} {p : By} (hd : zDf d ≤ 2000000 := by first | assumption | omega | (simp; done) | (simp; omega)) (h1 : 0 ≤ p.col := by first | assumption | omega | (simp; done) | (simp; omega)) (h2 : p.col.toNat < d.cols.length := by first | assumption | omega | (simp; done) | (simp; omega)) : T 79 [.val true (dfC false d), aI p.col, aB p.desc] [(true, prtC (ptO d p))] [none, none, none] := by
  refine w_call md [] Tryz.func79 rfl ?_
  obtain ⟨q1, q2, q3, q4, q5, q6⟩ := zDf_b hd
  rw [ptO_at h2]
  repeat' ((conv => whnf); (first | refine And.intro ⟨by omega, by omega⟩ (Exists.intro _ (And.intro (rdI (i := p.col.toNat) (by omega) (by omega)) ?_)) | refine k0 ?_ | refine jA fun _ => ?_ | refine jB fun _ => ?_ | refine kC (fun _ => ?_) fun _ => ?_ | refine jst ?_ | exact ⟨rfl, rfl⟩ | exact jV | fail))

theorem cx79 {P : Program} {X : FuncId → List Arg → List (Bool × List Cell) → List (Option (List Cell)) → Prop} {a : List Arg} {Q : List (Bool × List Cell) → List (Option (List Cell)) → Prop} (h : ∃ b vals outs, a = b ∧ D P X (.call 79 b vals outs) ∧ Q vals outs) : CallS P X 79 a Q := ⟨h⟩

set_option maxHeartbeats 2000000 in
set_option maxRecDepth 100000 in
theorem tx41 {d : Df} {l : List By} (hd : zDf d ≤ 2000000 := by first | assumption | omega | (simp; done) | (simp; omega)) (hp : PrtOk d.cols.length l := by first | assumption | omega | (simp; done) | (simp; omega)) : T 41 [.val true (dfC false d), aE l] [vE (ptsO d l)] [none, none] := by
  refine w_call md [] Tryz.func41 rfl ?_
  obtain ⟨q1, q2, q3, q4, q5, q6⟩ := zDf_b hd
  have hl := inB_iff.1 hp.len
  repeat' ((conv => whnf); (first | refine k0 ?_ | refine jA fun _ => ?_ | refine jB fun _ => ?_ | refine kC (fun _ => ?_) fun _ => ?_ | (apply cx79; refine kl tx79 ?_) | refine jst ?_ | exact ⟨rfl, rfl⟩ | exact jV | fail))
  conv => whnf
  refine loopk (ι := Nat) (fun i => i ≤ l.length) (fun i => l.length - i) (0) [1, 2] (fun i => [(5, .v false [.ref 3 0 ((ptsO d l).take i).length 4]), (6, .v false [i6 i])]) [none, none, none, some fun i => nE ((ptsO d l).take i)] ?_
  refine ⟨by omega, ?_, fun a ha => ?_⟩
  · exact jw []
  · have htl := tkl (l := ptsO d l) (i := a) ptsO_len ha
    repeat' ((conv => whnf); (first | refine k0 ?_ | (apply cx79; refine kl tx79 ?_) | refine jst ?_ | exact ⟨rfl, rfl⟩ | exact jV | fail))
    conv => whnf
    refine ⟨fun hlt => ?_, fun hge => ?_⟩
    · have ha2 : a < l.length := by omega
      obtain ⟨h1, h2⟩ := hp.at' ha2
      repeat' ((conv => whnf); (first | (apply cx79; refine kl (tx79 (d := d) (p := l[a])) ?_) | refine jap (N := cs true ([ptO d l[a]] : List Prt)) (apE ?_) | refine k0 ?_ | refine jA fun _ => ?_ | refine jB fun _ => ?_ | refine kC (fun _ => ?_) fun _ => ?_ | (apply cx79; refine kl tx79 ?_) | refine jst ?_ | exact ⟨rfl, rfl⟩ | exact jV | fail))
      refine ⟨⟨a + 1, by omega⟩, by simp only; omega, ?_⟩
      exact w_autoX [] (by (conv => whnf); exact And.intro (by kernel_rfl) (And.intro (by kernel_rfl) (by repeat' (first | (with_reducible exact rfl) | ((conv => whnf); first | exact trivial | exact (by rw [ptsO_take ha2 h2, ← ptO_at h2]; exact ⟨rfl, cs_clo _, rfl⟩) | exact (by rw [ptsO_take ha2 h2, ← ptO_at h2]; rfl) | exact rfl | exact tvi (by first | omega | (dsimp only; omega) | (simp; done)) | exact tvr (by first | omega | (dsimp only; omega) | (simp; done) | (simp; omega)) | exact ⟨rfl, clo_i, by first | rfl | rw [List.take_length] | assumption⟩ | refine And.intro ?_ ?_)))))
    · obtain rfl : a = l.length := by omega
      have e : (ptsO d l).take l.length = ptsO d l := by rw [← ptsO_len (d := d)]; exact List.take_length
      repeat' ((conv => whnf); (first | refine k0 ?_ | refine jA fun _ => ?_ | refine jB fun _ => ?_ | refine kC (fun _ => ?_) fun _ => ?_ | (apply cx79; refine kl tx79 ?_) | refine jst ?_ | exact ⟨rfl, rfl⟩ | exact jV | fail))
      exact ⟨by rw [e]; rfl, rfl⟩

theorem cx41 {P : Program} {X : FuncId → List Arg → List (Bool × List Cell) → List (Option (List Cell)) → Prop} {a : List Arg} {Q : List (Bool × List Cell) → List (Option (List Cell)) → Prop} (h : ∃ b vals outs, a = b ∧ D P X (.call 41 b vals outs) ∧ Q vals outs) : CallS P X 41 a Q := ⟨h⟩

attribute [local irreducible] ptsO ptO

set_option maxRecDepth 100000 in
theorem tx19 {d : Df} (hd : zDf d ≤ 2000000 := by first | assumption | omega | (simp; done) | (simp; omega)) : T 19 [.val true (dfC false d)] [vE (ppN d)] [none] := by
  refine w_call md [[4]] Tryz.func19 rfl ?_
  by_cases h : cdN d = 0
  · have hp := cd_prt h
    rw [ppN_y h]
    have hC : T 61 [.val true (dfC false d)] [vI 0] [none] := by
      have h2 := tx61 (d := d)
      rwa [h] at h2
    repeat' ((conv => whnf); (first | (apply cx61; refine kl (hC) ?_) | (apply cx62; refine kl (tx62 (d := d) (l := d.prim)) ?_) | refine k0 ?_ | refine jA fun _ => ?_ | refine jB fun _ => ?_ | refine kC (fun _ => ?_) fun _ => ?_ | (apply cx61; refine kl tx61 ?_) | (apply cx62; refine kl tx62 ?_) | refine jst ?_ | exact ⟨rfl, rfl⟩ | exact jV | fail))
  · rw [ppN_n h]
    repeat' ((conv => whnf); (first | (apply cx61; refine kl (tx61 (d := d)) ?_) | refine k0 ?_ | refine jA fun _ => ?_ | refine jB fun _ => ?_ | refine kC (fun _ => ?_) fun _ => ?_ | (apply cx61; refine kl tx61 ?_) | (apply cx62; refine kl tx62 ?_) | refine jst ?_ | exact ⟨rfl, rfl⟩ | exact jV | fail))

theorem cx19 {P : Program} {X : FuncId → List Arg → List (Bool × List Cell) → List (Option (List Cell)) → Prop} {a : List Arg} {Q : List (Bool × List Cell) → List (Option (List Cell)) → Prop} (h : ∃ b vals outs, a = b ∧ D P X (.call 19 b vals outs) ∧ Q vals outs) : CallS P X 19 a Q := ⟨h⟩

set_option maxRecDepth 100000 in
theorem tx11 {d : Df} (hd : zDf d ≤ 2000000 := by first | assumption | omega | (simp; done) | (simp; omega)) : T 11 [.val true (dfC false d)] [vE (ppN d)] [none] := by
  refine w_call md [] Tryz.func11 rfl ?_
  by_cases h : cdN d = 0
  · have hp := cd_prt h
    rw [ppN_y h]
    have hC : T 40 [.val true (dfC false d)] [vI 0] [none] := by
      have h2 := tx40 (d := d)
      rwa [h] at h2
    repeat' ((conv => whnf); (first | (apply cx40; refine kl (hC) ?_) | (apply cx41; refine kl (tx41 (d := d) (l := d.prim)) ?_) | refine k0 ?_ | refine jA fun _ => ?_ | refine jB fun _ => ?_ | refine kC (fun _ => ?_) fun _ => ?_ | (apply cx40; refine kl tx40 ?_) | (apply cx41; refine kl tx41 ?_) | refine jst ?_ | exact ⟨rfl, rfl⟩ | exact jV | fail))
  · rw [ppN_n h]
    repeat' ((conv => whnf); (first | (apply cx40; refine kl (tx40 (d := d)) ?_) | refine k0 ?_ | refine jA fun _ => ?_ | refine jB fun _ => ?_ | refine kC (fun _ => ?_) fun _ => ?_ | (apply cx40; refine kl tx40 ?_) | (apply cx41; refine kl tx41 ?_) | refine jst ?_ | exact ⟨rfl, rfl⟩ | exact jV | fail))

theorem cx11 {P : Program} {X : FuncId → List Arg → List (Bool × List Cell) → List (Option (List Cell)) → Prop} {a : List Arg} {Q : List (Bool × List Cell) → List (Option (List Cell)) → Prop} (h : ∃ b vals outs, a = b ∧ D P X (.call 11 b vals outs) ∧ Q vals outs) : CallS P X 11 a Q := ⟨h⟩

set_option maxHeartbeats 2000000 in
set_option maxRecDepth 100000 in
theorem tx18 {l : List Prt} {r : List Vl} (hl : l.length ≤ 2000000 := by first | assumption | omega | (simp; done) | (simp; omega)) (hr : r.length ≤ 2000000 := by first | assumption | omega | (simp; done) | (simp; omega)) : T 18 [aE l, aE r] [vE (pkR l r)] [none, none] := by
  refine w_call md [[3]] Tryz.func18 rfl ?_
  repeat' ((conv => whnf); (first | refine k0 ?_ | refine jA fun _ => ?_ | refine jB fun _ => ?_ | refine kC (fun _ => ?_) fun _ => ?_ | (apply cx45; refine kl tx45 ?_) | refine jst ?_ | exact ⟨rfl, rfl⟩ | exact jV | fail))
  conv => whnf
  refine loopk (ι := Nat) (fun i => i ≤ l.length) (fun i => l.length - i) (0) [1, 9, 10] (fun i => [(5, .v false [.ref 2 0 ((pkR l r).take i).length 3]), (11, .v false [i6 i])]) [none, none, some fun i => nE ((pkR l r).take i)] ?_
  refine ⟨by omega, ?_, fun a ha => ?_⟩
  · exact (w_virt 5 3 rfl rfl).trans (jw [])
  · have htl := tkl (l := pkR l r) (i := a) pkR_len ha
    repeat' ((conv => whnf); (first | refine k0 ?_ | (apply cx45; refine kl tx45 ?_) | refine jst ?_ | exact ⟨rfl, rfl⟩ | exact jV | fail))
    conv => whnf
    refine ⟨fun hlt => ?_, fun hge => ?_⟩
    · have ha2 : a < l.length := by omega
      by_cases hin : inB l[a].col 0 ((r.length : Int) - 1) = true
      · have hb := inB_iff.1 hin
        have h2 : l[a].col.toNat < r.length := by omega
        have hI : T 45 [aI l[a].col, aI 0, aI ((r.length : Int) - 1)] [vB true] [none, none, none] := by
          have h := tx45 (n := l[a].col) (l := 0) (h := (r.length : Int) - 1)
          rwa [hin] at h
        repeat' ((conv => whnf); (first | (apply cx45; refine kl (hI) ?_) | refine And.intro ⟨by omega, by omega⟩ (Exists.intro _ (And.intro (rdI (i := l[a].col.toNat) (by omega) (by omega)) ?_)) | refine jap (N := cs true ([r[l[a].col.toNat]] : List Vl)) (apE ?_) | refine k0 ?_ | refine jA fun _ => ?_ | refine jB fun _ => ?_ | refine kC (fun _ => ?_) fun _ => ?_ | (apply cx45; refine kl tx45 ?_) | refine jst ?_ | exact ⟨rfl, rfl⟩ | exact jV | fail))
        refine ⟨⟨a + 1, by omega⟩, by simp only; omega, ?_⟩
        exact w_autoX [] (by (conv => whnf); exact And.intro (by kernel_rfl) (And.intro (by kernel_rfl) (by repeat' (first | (with_reducible exact rfl) | ((conv => whnf); first | exact trivial | exact (by rw [pkR_take ha2 (pkV_y hin h2)]; exact ⟨rfl, cs_clo _, rfl⟩) | exact (by rw [pkR_take ha2 (pkV_y hin h2)]; rfl) | exact rfl | exact tvi (by first | omega | (dsimp only; omega) | (simp; done)) | exact tvr (by first | omega | (dsimp only; omega) | (simp; done) | (simp; omega)) | exact ⟨rfl, clo_i, by first | rfl | rw [List.take_length] | assumption⟩ | refine And.intro ?_ ?_)))))
      · have hI : T 45 [aI l[a].col, aI 0, aI ((r.length : Int) - 1)] [vB false] [none, none, none] := by
          have h := tx45 (n := l[a].col) (l := 0) (h := (r.length : Int) - 1)
          rwa [bNt hin] at h
        repeat' ((conv => whnf); (first | (apply cx45; refine kl (hI) ?_) | refine jap (N := cs true ([v0] : List Vl)) (apE ?_) | refine k0 ?_ | refine jA fun _ => ?_ | refine jB fun _ => ?_ | refine kC (fun _ => ?_) fun _ => ?_ | (apply cx45; refine kl tx45 ?_) | refine jst ?_ | exact ⟨rfl, rfl⟩ | exact jV | fail))
        refine ⟨⟨a + 1, by omega⟩, by simp only; omega, ?_⟩
        exact w_autoX [] (by (conv => whnf); exact And.intro (by kernel_rfl) (And.intro (by kernel_rfl) (by repeat' (first | (with_reducible exact rfl) | ((conv => whnf); first | exact trivial | exact (by rw [pkR_take ha2 (pkV_n (bNt hin))]; exact ⟨rfl, cs_clo _, rfl⟩) | exact (by rw [pkR_take ha2 (pkV_n (bNt hin))]; rfl) | exact rfl | exact tvi (by first | omega | (dsimp only; omega) | (simp; done)) | exact tvr (by first | omega | (dsimp only; omega) | (simp; done) | (simp; omega)) | exact ⟨rfl, clo_i, by first | rfl | rw [List.take_length] | assumption⟩ | refine And.intro ?_ ?_)))))
    · obtain rfl : a = l.length := by omega
      have e : (pkR l r).take l.length = pkR l r := by rw [← pkR_len (r := r)]; exact List.take_length
      repeat' ((conv => whnf); (first | refine k0 ?_ | refine jA fun _ => ?_ | refine jB fun _ => ?_ | refine kC (fun _ => ?_) fun _ => ?_ | (apply cx45; refine kl tx45 ?_) | refine jst ?_ | exact ⟨rfl, rfl⟩ | exact jV | fail))
      exact ⟨by rw [e]; rfl, rfl⟩

theorem cx18 {P : Program} {X : FuncId → List Arg → List (Bool × List Cell) → List (Option (List Cell)) → Prop} {a : List Arg} {Q : List (Bool × List Cell) → List (Option (List Cell)) → Prop} (h : ∃ b vals outs, a = b ∧ D P X (.call 18 b vals outs) ∧ Q vals outs) : CallS P X 18 a Q := ⟨h⟩

set_option maxHeartbeats 2000000 in
set_option maxRecDepth 100000 in
theorem tx10 {l : List Prt} {r : List Vl} (hl : l.length ≤ 2000000 := by first | assumption | omega | (simp; done) | (simp; omega)) (hr : r.length ≤ 2000000 := by first | assumption | omega | (simp; done) | (simp; omega)) : T 10 [aE l, aE r] [vE (pkR l r)] [none, none] := by
  refine w_call md [] Tryz.func10 rfl ?_
  repeat' ((conv => whnf); (first | refine k0 ?_ | refine jA fun _ => ?_ | refine jB fun _ => ?_ | refine kC (fun _ => ?_) fun _ => ?_ | (apply cx39; refine kl tx39 ?_) | refine jst ?_ | exact ⟨rfl, rfl⟩ | exact jV | fail))
  conv => whnf
  refine loopk (ι := Nat) (fun i => i ≤ l.length) (fun i => l.length - i) (0) [0, 1] (fun i => [(5, .v false [.ref 2 0 ((pkR l r).take i).length 3]), (6, .v false [i6 i])]) [none, none, some fun i => nE ((pkR l r).take i)] ?_
  refine ⟨by omega, ?_, fun a ha => ?_⟩
  · exact jw []
  · have htl := tkl (l := pkR l r) (i := a) pkR_len ha
    repeat' ((conv => whnf); (first | refine k0 ?_ | (apply cx39; refine kl tx39 ?_) | refine jst ?_ | exact ⟨rfl, rfl⟩ | exact jV | fail))
    conv => whnf
    refine ⟨fun hlt => ?_, fun hge => ?_⟩
    · have ha2 : a < l.length := by omega
      by_cases hin : inB l[a].col 0 ((r.length : Int) - 1) = true
      · have hb := inB_iff.1 hin
        have h2 : l[a].col.toNat < r.length := by omega
        have hI : T 39 [aI l[a].col, aI 0, aI ((r.length : Int) - 1)] [vB true] [none, none, none] := by
          have h := tx39 (n := l[a].col) (l := 0) (h := (r.length : Int) - 1)
          rwa [hin] at h
        repeat' ((conv => whnf); (first | (apply cx39; refine kl (hI) ?_) | refine And.intro ⟨by omega, by omega⟩ (Exists.intro _ (And.intro (rdI (i := l[a].col.toNat) (by omega) (by omega)) ?_)) | refine jap (N := cs true ([r[l[a].col.toNat]] : List Vl)) (apE ?_) | refine k0 ?_ | refine jA fun _ => ?_ | refine jB fun _ => ?_ | refine kC (fun _ => ?_) fun _ => ?_ | (apply cx39; refine kl tx39 ?_) | refine jst ?_ | exact ⟨rfl, rfl⟩ | exact jV | fail))
        refine ⟨⟨a + 1, by omega⟩, by simp only; omega, ?_⟩
        exact w_autoX [] (by (conv => whnf); exact And.intro (by kernel_rfl) (And.intro (by kernel_rfl) (by repeat' (first | (with_reducible exact rfl) | ((conv => whnf); first | exact trivial | exact (by rw [pkR_take ha2 (pkV_y hin h2)]; exact ⟨rfl, cs_clo _, rfl⟩) | exact (by rw [pkR_take ha2 (pkV_y hin h2)]; rfl) | exact rfl | exact tvi (by first | omega | (dsimp only; omega) | (simp; done)) | exact tvr (by first | omega | (dsimp only; omega) | (simp; done) | (simp; omega)) | exact ⟨rfl, clo_i, by first | rfl | rw [List.take_length] | assumption⟩ | refine And.intro ?_ ?_)))))
      · have hI : T 39 [aI l[a].col, aI 0, aI ((r.length : Int) - 1)] [vB false] [none, none, none] := by
          have h := tx39 (n := l[a].col) (l := 0) (h := (r.length : Int) - 1)
          rwa [bNt hin] at h
        repeat' ((conv => whnf); (first | (apply cx39; refine kl (hI) ?_) | refine jap (N := cs true ([v0] : List Vl)) (apE ?_) | refine k0 ?_ | refine jA fun _ => ?_ | refine jB fun _ => ?_ | refine kC (fun _ => ?_) fun _ => ?_ | (apply cx39; refine kl tx39 ?_) | refine jst ?_ | exact ⟨rfl, rfl⟩ | exact jV | fail))
        refine ⟨⟨a + 1, by omega⟩, by simp only; omega, ?_⟩
        exact w_autoX [] (by (conv => whnf); exact And.intro (by kernel_rfl) (And.intro (by kernel_rfl) (by repeat' (first | (with_reducible exact rfl) | ((conv => whnf); first | exact trivial | exact (by rw [pkR_take ha2 (pkV_n (bNt hin))]; exact ⟨rfl, cs_clo _, rfl⟩) | exact (by rw [pkR_take ha2 (pkV_n (bNt hin))]; rfl) | exact rfl | exact tvi (by first | omega | (dsimp only; omega) | (simp; done)) | exact tvr (by first | omega | (dsimp only; omega) | (simp; done) | (simp; omega)) | exact ⟨rfl, clo_i, by first | rfl | rw [List.take_length] | assumption⟩ | refine And.intro ?_ ?_)))))
    · obtain rfl : a = l.length := by omega
      have e : (pkR l r).take l.length = pkR l r := by rw [← pkR_len (r := r)]; exact List.take_length
      repeat' ((conv => whnf); (first | refine k0 ?_ | refine jA fun _ => ?_ | refine jB fun _ => ?_ | refine kC (fun _ => ?_) fun _ => ?_ | (apply cx39; refine kl tx39 ?_) | refine jst ?_ | exact ⟨rfl, rfl⟩ | exact jV | fail))
      exact ⟨by rw [e]; rfl, rfl⟩

theorem cx10 {P : Program} {X : FuncId → List Arg → List (Bool × List Cell) → List (Option (List Cell)) → Prop} {a : List Arg} {Q : List (Bool × List Cell) → List (Option (List Cell)) → Prop} (h : ∃ b vals outs, a = b ∧ D P X (.call 10 b vals outs) ∧ Q vals outs) : CallS P X 10 a Q := ⟨h⟩

set_option maxRecDepth 100000 in
theorem tx44 {r : List Vl} (hr : r.length ≤ 2000000 := by first | assumption | omega | (simp; done) | (simp; omega)) : T 44 [aE r] [vE r] [none] := by
  refine w_call md [[3]] Tryz.func44 rfl ?_
  repeat' ((conv => whnf); (first | refine Exists.intro _ (Exists.intro (cs true (_ : List Vl)) (And.intro rfl (And.intro ⟨bgb (by omega), bg1 (by omega)⟩ ?_))) | refine k0 ?_ | refine jA fun _ => ?_ | refine jB fun _ => ?_ | refine kC (fun _ => ?_) fun _ => ?_ | refine jst ?_ | exact ⟨rfl, rfl⟩ | exact jV | fail))

theorem cx44 {P : Program} {X : FuncId → List Arg → List (Bool × List Cell) → List (Option (List Cell)) → Prop} {a : List Arg} {Q : List (Bool × List Cell) → List (Option (List Cell)) → Prop} (h : ∃ b vals outs, a = b ∧ D P X (.call 44 b vals outs) ∧ Q vals outs) : CallS P X 44 a Q := ⟨h⟩
end

section
open Go Go.RowKit Go.IntWalk

open Enc (sz cs)

attribute [local irreducible] IntKind.wrap

attribute [local irreducible] ptsO ptO pkR ppN bOf fstI fbN cdN

noncomputable abbrev hxN (s : List Df) (t i : Int) : Bool := bOf (fbN s = -1 ∧ ∃ h : 0 ≤ t ∧ t.toNat < s.length, inB i (-1) (((s[t.toNat]'h.2).idx.length : Int) - 1) = true)

set_option maxRecDepth 100000 in
theorem tx42 {s : List Df} {t i : Int} (hs : zSc s ≤ 2000000 := by first | assumption | omega | (simp; done) | (simp; omega)) : T 42 [aE s, aI t, aI i] [vB (hxN s t i)] [none, none, none] := by
  refine w_call md [] Tryz.func42 rfl ?_
  obtain ⟨q1, q2⟩ := zSc_b hs
  by_cases h : fbN s = -1
  · have hF : T 59 [aE s] [vI (-1)] [none] := by
      have h2 := tx59 (s := s)
      rwa [h] at h2
    by_cases ht : inB t 0 ((s.length : Int) - 1) = true
    · have hb := inB_iff.1 ht
      have hI : T 45 [aI t, aI 0, aI ((s.length : Int) - 1)] [vB true] [none, none, none] := by
        have h := tx45 (n := t) (l := 0) (h := (s.length : Int) - 1)
        rwa [ht] at h
      have h2 : t.toNat < s.length := by omega
      have hz := zDf_b (q2 _ h2)
      have e : hxN s t i = inB i (-1) ((s[t.toNat].idx.length : Int) - 1) := by
        cases hv : inB i (-1) ((s[t.toNat].idx.length : Int) - 1) with
        | true => exact bOf_y ⟨h, ⟨by omega, h2⟩, hv⟩
        | false =>
          refine bOf_n fun q => ?_
          obtain ⟨_, _, q⟩ := q
          exact bft hv q
      have hq := hz.2.2.2.1
      clear hz
      rw [e]
      repeat' ((conv => whnf); (first | (apply cx59; refine kl (hF) ?_) | (apply cx45; refine kl (hI) ?_) | refine And.intro ⟨by omega, by omega⟩ (Exists.intro _ (And.intro (rdI (i := t.toNat) (by omega) (by omega)) ?_)) | (apply cx45; refine kl (tx45 (n := i) (l := -1) (h := (s[t.toNat].idx.length : Int) - 1)) ?_) | refine k0 ?_ | refine jA fun _ => ?_ | refine jB fun _ => ?_ | refine kC (fun _ => ?_) fun _ => ?_ | (apply cx59; refine kl tx59 ?_) | (apply cx45; refine kl tx45 ?_) | refine jst ?_ | exact ⟨rfl, rfl⟩ | exact jV | fail))
      all_goals first | exact ⟨vB1 (by assumption), rfl⟩ | exact ⟨vB0 (by assumption), rfl⟩
    · have hI : T 45 [aI t, aI 0, aI ((s.length : Int) - 1)] [vB false] [none, none, none] := by
        have h := tx45 (n := t) (l := 0) (h := (s.length : Int) - 1)
        rwa [bNt ht] at h
      repeat' ((conv => whnf); (first | (apply cx59; refine kl (hF) ?_) | (apply cx45; refine kl (hI) ?_) | refine k0 ?_ | refine jA fun _ => ?_ | refine jB fun _ => ?_ | refine kC (fun _ => ?_) fun _ => ?_ | (apply cx59; refine kl tx59 ?_) | (apply cx45; refine kl tx45 ?_) | refine jst ?_ | exact ⟨rfl, rfl⟩ | exact jV | fail))
      exact ⟨vB0 (bOf_n fun q => by
        obtain ⟨_, hq, _⟩ := q
        exact ht (inB_iff.2 (by omega))), rfl⟩
  · repeat' ((conv => whnf); (first | (apply cx59; refine kl (tx59 (s := s)) ?_) | refine k0 ?_ | refine jA fun _ => ?_ | refine jB fun _ => ?_ | refine kC (fun _ => ?_) fun _ => ?_ | (apply cx59; refine kl tx59 ?_) | (apply cx45; refine kl tx45 ?_) | refine jst ?_ | exact ⟨rfl, rfl⟩ | exact jV | fail))
    exact ⟨vB0 (bOf_n fun q => h q.1), rfl⟩

theorem cx42 {P : Program} {X : FuncId → List Arg → List (Bool × List Cell) → List (Option (List Cell)) → Prop} {a : List Arg} {Q : List (Bool × List Cell) → List (Option (List Cell)) → Prop} (h : ∃ b vals outs, a = b ∧ D P X (.call 42 b vals outs) ∧ Q vals outs) : CallS P X 42 a Q := ⟨h⟩

/-- The place of a key's row. -/
noncomputable def atN (plan : List Prt) (rows : List (List Vl)) (key : List Vl) : Int := fstI rows.length fun i => ∃ h : i < rows.length, pkR plan rows[i] = key

theorem atN_lt {plan : List Prt} {rows : List (List Vl)} {key : List Vl} {j : Nat} (h : atN plan rows key = j) : j < rows.length := by
  have key2 : fstI rows.length (fun i => ∃ h : i < rows.length, pkR plan rows[i] = key) = -1 ∨ ∃ i, i < rows.length ∧ fstI rows.length (fun i => ∃ h : i < rows.length, pkR plan rows[i] = key) = (i : Int) := by
    unfold fstI
    split
    · rename_i hx
      exact .inr ⟨_, (Classical.choose_spec hx).1, rfl⟩
    · exact .inl rfl
  unfold atN at h
  rcases key2 with e | ⟨i, hi, e⟩
  · rw [e] at h; omega
  · rw [e] at h; omega

theorem zMdb_b {m : Tbs} (h : zMdb m ≤ 2000000) : m.length ≤ 2000000 ∧ ∀ k (hk : k < m.length), m[k].length ≤ 2000000 ∧ ∀ j (hj : j < m[k].length), m[k][j].length ≤ 2000000 := by
  have h0 : zMdb m = m.length + cnt zTab m := rfl
  refine ⟨by omega, fun k hk => ?_⟩
  have h3 := cnt_mem (c := zTab) (List.getElem_mem hk)
  have e3 : zTab m[k] = m[k].length + cnt zRow m[k] := rfl
  refine ⟨by omega, fun j hj => ?_⟩
  have h4 := cnt_mem (c := zRow) (List.getElem_mem hj)
  have e4 : zRow m[k][j] = m[k][j].length + cnt zVl m[k][j] := rfl
  omega

set_option maxHeartbeats 2000000 in
set_option maxRecDepth 100000 in
theorem tx43 {s : List Df} {m : Tbs} {t : Nat} {key : List Vl} (hs : zSc s ≤ 2000000 := by first | assumption | omega | (simp; done) | (simp; omega)) (hm : zMdb m ≤ 2000000 := by first | assumption | omega | (simp; done) | (simp; omega)) (hk : key.length ≤ 2000000 := by first | assumption | omega | (simp; done) | (simp; omega)) (h2 : t < s.length := by first | assumption | omega | (simp; done) | (simp; omega)) (h3 : t < m.length := by first | assumption | omega | (simp; done) | (simp; omega)) : T 43 [aE s, .val true [slE false m], aI t, aE key] [vI (atN (ppN s[t]) m[t] key)] [none, none, none, none] := by
  refine w_call md [] Tryz.func43 rfl ?_
  obtain ⟨q1, q2⟩ := zSc_b hs
  obtain ⟨z1, z2⟩ := zMdb_b hm
  have hd := q2 t h2
  obtain ⟨z3, z4⟩ := z2 t h3
  have hpl := ppN_len (d := s[t])
  repeat' ((conv => whnf); (first | (apply cx19; refine kl (tx19 (d := s[t])) ?_) | refine k0 ?_ | refine jA fun _ => ?_ | refine jB fun _ => ?_ | refine kC (fun _ => ?_) fun _ => ?_ | (apply cx19; refine kl tx19 ?_) | (apply cx18; refine kl tx18 ?_) | (apply cx20; refine kl tx20 ?_) | refine jst ?_ | exact ⟨rfl, rfl⟩ | exact jV | fail))
  conv => whnf
  refine loopk (ι := Nat) (fun i => i ≤ m[t].length ∧ ∀ j (h : j < m[t].length), j < i → pkR (ppN s[t]) m[t][j] ≠ key) (fun i => m[t].length - i) (0) [3, 9, 22, 23] (fun i => [(24, .v false [i6 i])]) [none, none, none, none, none, none] ?_
  refine ⟨⟨by omega, by intros; omega⟩, ?_, fun a ha => ?_⟩
  · exact jw []
  · repeat' ((conv => whnf); (first | refine k0 ?_ | (apply cx19; refine kl tx19 ?_) | (apply cx18; refine kl tx18 ?_) | (apply cx20; refine kl tx20 ?_) | refine jst ?_ | exact ⟨rfl, rfl⟩ | exact jV | fail))
    conv => whnf
    refine ⟨fun hlt => ?_, fun hge => ?_⟩
    · have ha2 : a < m[t].length := by omega
      have hz := z4 a ha2
      have hpk := pkR_len (l := ppN s[t]) (r := m[t][a])
      by_cases e : pkR (ppN s[t]) m[t][a] = key
      · have hS : T 20 [aE (pkR (ppN s[t]) m[t][a]), aE key] [vB true] [none, none] := by
          have h9 := tx20 (a := pkR (ppN s[t]) m[t][a]) (b := key)
          rwa [show smR _ key = true from bOf_y e] at h9
        repeat' ((conv => whnf); (first | (apply cx18; refine kl (tx18 (l := ppN s[t]) (r := m[t][a])) ?_) | (apply cx20; refine kl (hS) ?_) | refine k0 ?_ | refine jA fun _ => ?_ | refine jB fun _ => ?_ | refine kC (fun _ => ?_) fun _ => ?_ | (apply cx19; refine kl tx19 ?_) | (apply cx18; refine kl tx18 ?_) | (apply cx20; refine kl tx20 ?_) | refine jst ?_ | exact ⟨rfl, rfl⟩ | exact jV | fail))
        exact ⟨vI1 (fstI_at ha2 ⟨ha2, e⟩ (fun j hj q => by
          obtain ⟨hq, q⟩ := q
          exact ha.2 j hq hj q)), rfl⟩
      · have hS : T 20 [aE (pkR (ppN s[t]) m[t][a]), aE key] [vB false] [none, none] := by
          have h9 := tx20 (a := pkR (ppN s[t]) m[t][a]) (b := key)
          rwa [show smR _ key = false from bOf_n e] at h9
        repeat' ((conv => whnf); (first | (apply cx18; refine kl (tx18 (l := ppN s[t]) (r := m[t][a])) ?_) | (apply cx20; refine kl (hS) ?_) | refine k0 ?_ | refine jA fun _ => ?_ | refine jB fun _ => ?_ | refine kC (fun _ => ?_) fun _ => ?_ | (apply cx19; refine kl tx19 ?_) | (apply cx18; refine kl tx18 ?_) | (apply cx20; refine kl tx20 ?_) | refine jst ?_ | exact ⟨rfl, rfl⟩ | exact jV | fail))
        refine ⟨⟨a + 1, by omega, all_suc ha.2 ha2 e⟩, by simp only; omega, ?_⟩
        exact jw []
    · obtain rfl : a = m[t].length := by omega
      repeat' ((conv => whnf); (first | refine k0 ?_ | refine jA fun _ => ?_ | refine jB fun _ => ?_ | refine kC (fun _ => ?_) fun _ => ?_ | (apply cx19; refine kl tx19 ?_) | (apply cx18; refine kl tx18 ?_) | (apply cx20; refine kl tx20 ?_) | refine jst ?_ | exact ⟨rfl, rfl⟩ | exact jV | fail))
      exact ⟨vI1 (fstI_no (fun j hj q => by
        obtain ⟨hq, q⟩ := q
        exact ha.2 j hq hj q)), rfl⟩

theorem cx43 {P : Program} {X : FuncId → List Arg → List (Bool × List Cell) → List (Option (List Cell)) → Prop} {a : List Arg} {Q : List (Bool × List Cell) → List (Option (List Cell)) → Prop} (h : ∃ b vals outs, a = b ∧ D P X (.call 43 b vals outs) ∧ Q vals outs) : CallS P X 43 a Q := ⟨h⟩

set_option maxRecDepth 100000 in
theorem tx74 {d : Df} {r : List Vl} (hd : zDf d ≤ 2000000 := by first | assumption | omega | (simp; done) | (simp; omega)) (hr : r.length ≤ 2000000 := by first | assumption | omega | (simp; done) | (simp; omega)) : T 74 [.val true (dfC false d), aE r] [vE (pkR (ppN d) r)] [none, none] := by
  refine w_call md [] Tryz.func74 rfl ?_
  have hpl := ppN_len (d := d)
  repeat' ((conv => whnf); (first | (apply cx11; refine kl (tx11 (d := d)) ?_) | (apply cx10; refine kl (tx10 (l := ppN d) (r := r)) ?_) | refine k0 ?_ | refine jA fun _ => ?_ | refine jB fun _ => ?_ | refine kC (fun _ => ?_) fun _ => ?_ | (apply cx11; refine kl tx11 ?_) | (apply cx10; refine kl tx10 ?_) | refine jst ?_ | exact ⟨rfl, rfl⟩ | exact jV | fail))

theorem cx74 {P : Program} {X : FuncId → List Arg → List (Bool × List Cell) → List (Option (List Cell)) → Prop} {a : List Arg} {Q : List (Bool × List Cell) → List (Option (List Cell)) → Prop} (h : ∃ b vals outs, a = b ∧ D P X (.call 74 b vals outs) ∧ Q vals outs) : CallS P X 74 a Q := ⟨h⟩

set_option maxHeartbeats 2000000 in
set_option maxRecDepth 100000 in
theorem tx53 {d : Df} {rows : List (List Vl)} {key : List Vl} (hd : zDf d ≤ 2000000 := by first | assumption | omega | (simp; done) | (simp; omega)) (hm : rows.length ≤ 2000000 ∧ ∀ j (hj : j < rows.length), rows[j].length ≤ 2000000 := by first | assumption | omega | (simp; done) | (simp; omega)) (hk : key.length ≤ 2000000 := by first | assumption | omega | (simp; done) | (simp; omega)) : T 53 [.val true (dfC false d), aE rows, aE key] [vI (atN (ppN d) rows key)] [none, none, none] := by
  refine w_call md [] Tryz.func53 rfl ?_
  obtain ⟨z3, z4⟩ := hm
  have hpl := ppN_len (d := d)
  repeat' ((conv => whnf); (first | refine k0 ?_ | refine jA fun _ => ?_ | refine jB fun _ => ?_ | refine kC (fun _ => ?_) fun _ => ?_ | (apply cx74; refine kl tx74 ?_) | (apply cx95; refine kl tx95 ?_) | refine jst ?_ | exact ⟨rfl, rfl⟩ | exact jV | fail))
  conv => whnf
  refine loopk (ι := Nat) (fun i => i ≤ rows.length ∧ ∀ j (h : j < rows.length), j < i → pkR (ppN d) rows[j] ≠ key) (fun i => rows.length - i) (0) [1, 2, 3] (fun i => [(7, .v false [i6 i])]) [none, none, none, none] ?_
  refine ⟨⟨by omega, by intros; omega⟩, ?_, fun a ha => ?_⟩
  · exact jw []
  · repeat' ((conv => whnf); (first | refine k0 ?_ | (apply cx74; refine kl tx74 ?_) | (apply cx95; refine kl tx95 ?_) | refine jst ?_ | exact ⟨rfl, rfl⟩ | exact jV | fail))
    conv => whnf
    refine ⟨fun hlt => ?_, fun hge => ?_⟩
    · have ha2 : a < rows.length := by omega
      have hz := z4 a ha2
      have hpk := pkR_len (l := ppN d) (r := rows[a])
      by_cases e : pkR (ppN d) rows[a] = key
      · have hS : T 95 [aE (pkR (ppN d) rows[a]), aE key] [vB true] [none, none] := by
          have h9 := tx95 (a := pkR (ppN d) rows[a]) (b := key)
          rwa [show smR _ key = true from bOf_y e] at h9
        repeat' ((conv => whnf); (first | (apply cx74; refine kl (tx74 (d := d) (r := rows[a])) ?_) | (apply cx95; refine kl (hS) ?_) | refine k0 ?_ | refine jA fun _ => ?_ | refine jB fun _ => ?_ | refine kC (fun _ => ?_) fun _ => ?_ | (apply cx74; refine kl tx74 ?_) | (apply cx95; refine kl tx95 ?_) | refine jst ?_ | exact ⟨rfl, rfl⟩ | exact jV | fail))
        exact ⟨vI1 (fstI_at ha2 ⟨ha2, e⟩ (fun j hj q => by
          obtain ⟨hq, q⟩ := q
          exact ha.2 j hq hj q)), rfl⟩
      · have hS : T 95 [aE (pkR (ppN d) rows[a]), aE key] [vB false] [none, none] := by
          have h9 := tx95 (a := pkR (ppN d) rows[a]) (b := key)
          rwa [show smR _ key = false from bOf_n e] at h9
        repeat' ((conv => whnf); (first | (apply cx74; refine kl (tx74 (d := d) (r := rows[a])) ?_) | (apply cx95; refine kl (hS) ?_) | refine k0 ?_ | refine jA fun _ => ?_ | refine jB fun _ => ?_ | refine kC (fun _ => ?_) fun _ => ?_ | (apply cx74; refine kl tx74 ?_) | (apply cx95; refine kl tx95 ?_) | refine jst ?_ | exact ⟨rfl, rfl⟩ | exact jV | fail))
        refine ⟨⟨a + 1, by omega, all_suc ha.2 ha2 e⟩, by simp only; omega, ?_⟩
        exact jw []
    · obtain rfl : a = rows.length := by omega
      repeat' ((conv => whnf); (first | refine k0 ?_ | refine jA fun _ => ?_ | refine jB fun _ => ?_ | refine kC (fun _ => ?_) fun _ => ?_ | (apply cx74; refine kl tx74 ?_) | (apply cx95; refine kl tx95 ?_) | refine jst ?_ | exact ⟨rfl, rfl⟩ | exact jV | fail))
      exact ⟨vI1 (fstI_no (fun j hj q => by
        obtain ⟨hq, q⟩ := q
        exact ha.2 j hq hj q)), rfl⟩

theorem cx53 {P : Program} {X : FuncId → List Arg → List (Bool × List Cell) → List (Option (List Cell)) → Prop} {a : List Arg} {Q : List (Bool × List Cell) → List (Option (List Cell)) → Prop} (h : ∃ b vals outs, a = b ∧ D P X (.call 53 b vals outs) ∧ Q vals outs) : CallS P X 53 a Q := ⟨h⟩

attribute [local irreducible] atN
end

section
open Go Go.RowKit Go.IntWalk

open Enc (sz cs)

attribute [local irreducible] IntKind.wrap

/-! ### Values and plans -/

attribute [local irreducible] bOf fstI

abbrev se : ByteArray := ⟨#[]⟩

noncomputable def vlOk (v : Vl) : Bool :=
  if v.k = 0 then bOf (v.n = 0 ∧ v.s = se) else if v.k = 1 then bOf (inB v.n (-2147483648) 2147483647 = true ∧ v.s = se) else
  if v.k = 2 then bOf (inB v.n (-1000000000000000) 1000000000000000 = true ∧ v.s = se) else if v.k = 3 then bOf (v.n = 0 ∧ v.s.size ≤ 30) else
  if v.k = 4 then bOf (inB v.n 0 1 = true ∧ v.s = se) else false

section

variable {v : Vl}

theorem vl_0 (h : v.k = 0) : vlOk v = bOf (v.n = 0 ∧ v.s = se) := if_pos h

theorem vl_1 (h : v.k = 1) : vlOk v = bOf (inB v.n (-2147483648) 2147483647 = true ∧ v.s = se) := by unfold vlOk; rw [if_neg (by omega), if_pos h]

theorem vl_2 (h : v.k = 2) : vlOk v = bOf (inB v.n (-1000000000000000) 1000000000000000 = true ∧ v.s = se) := by unfold vlOk; rw [if_neg (by omega), if_neg (by omega), if_pos h]

theorem vl_3 (h : v.k = 3) : vlOk v = bOf (v.n = 0 ∧ v.s.size ≤ 30) := by unfold vlOk; rw [if_neg (by omega), if_neg (by omega), if_neg (by omega), if_pos h]

theorem vl_4 (h : v.k = 4) : vlOk v = bOf (inB v.n 0 1 = true ∧ v.s = se) := by unfold vlOk; rw [if_neg (by omega), if_neg (by omega), if_neg (by omega), if_neg (by omega), if_pos h]

theorem vl_5 (h0 : ¬ v.k = 0) (h1 : ¬ v.k = 1) (h2 : ¬ v.k = 2) (h3 : ¬ v.k = 3) (h4 : ¬ v.k = 4) : vlOk v = false := by unfold vlOk; rw [if_neg h0, if_neg h1, if_neg h2, if_neg h3, if_neg h4]

end

set_option maxHeartbeats 2000000 in
set_option maxRecDepth 100000 in
theorem tx156 {v : Vl} (hv : v.s.size ≤ 2000000 := by first | assumption | omega | (simp; done) | (simp; omega)) : T 156 [.val true (vlC v)] [vB (vlOk v)] [none] := by
  refine w_call md [] Tryz.func156 rfl ?_
  by_cases e0 : v.k = 0
  · rw [vl_0 e0]
    repeat' ((conv => whnf); (first | refine k0 ?_ | refine jA fun _ => ?_ | refine jB fun _ => ?_ | refine kC (fun _ => ?_) fun _ => ?_ | (apply cx45; refine kl tx45 ?_) | refine jst ?_ | exact ⟨rfl, rfl⟩ | exact jV | fail))
    all_goals first | exact ⟨vB1 (bOf_y ⟨by assumption, ba_eq (by assumption)⟩), rfl⟩ | exact ⟨vB0 (bOf_n fun q => by first | exact absurd q.1 (by assumption) | exact bft (by assumption) q.1 | exact absurd (congrArg ByteArray.toList q.2) (by assumption)), rfl⟩
  · skip
    by_cases e1 : v.k = 1
    · rw [vl_1 e1]
      repeat' ((conv => whnf); (first | refine k0 ?_ | refine jA fun _ => ?_ | refine jB fun _ => ?_ | refine kC (fun _ => ?_) fun _ => ?_ | (apply cx45; refine kl tx45 ?_) | refine jst ?_ | exact ⟨rfl, rfl⟩ | exact jV | fail))
      all_goals first | exact ⟨vB1 (bOf_y ⟨by assumption, ba_eq (by assumption)⟩), rfl⟩ | exact ⟨vB0 (bOf_n fun q => by first | exact absurd q.1 (by assumption) | exact bft (by assumption) q.1 | exact absurd (congrArg ByteArray.toList q.2) (by assumption)), rfl⟩
    · skip
      by_cases e2 : v.k = 2
      · rw [vl_2 e2]
        repeat' ((conv => whnf); (first | refine k0 ?_ | refine jA fun _ => ?_ | refine jB fun _ => ?_ | refine kC (fun _ => ?_) fun _ => ?_ | (apply cx45; refine kl tx45 ?_) | refine jst ?_ | exact ⟨rfl, rfl⟩ | exact jV | fail))
        all_goals first | exact ⟨vB1 (bOf_y ⟨by assumption, ba_eq (by assumption)⟩), rfl⟩ | exact ⟨vB0 (bOf_n fun q => by first | exact absurd q.1 (by assumption) | exact bft (by assumption) q.1 | exact absurd (congrArg ByteArray.toList q.2) (by assumption)), rfl⟩
      · skip
        by_cases e3 : v.k = 3
        · rw [vl_3 e3]
          repeat' ((conv => whnf); (first | refine k0 ?_ | refine jA fun _ => ?_ | refine jB fun _ => ?_ | refine kC (fun _ => ?_) fun _ => ?_ | (apply cx45; refine kl tx45 ?_) | refine jst ?_ | exact ⟨rfl, rfl⟩ | exact jV | fail))
          all_goals first | exact ⟨vB1 (bOf_y ⟨by assumption, by omega⟩), rfl⟩ | exact ⟨vB0 (bOf_n fun q => by omega), rfl⟩
        · skip
          by_cases e4 : v.k = 4
          · rw [vl_4 e4]
            repeat' ((conv => whnf); (first | refine k0 ?_ | refine jA fun _ => ?_ | refine jB fun _ => ?_ | refine kC (fun _ => ?_) fun _ => ?_ | (apply cx45; refine kl tx45 ?_) | refine jst ?_ | exact ⟨rfl, rfl⟩ | exact jV | fail))
            all_goals first | exact ⟨vB1 (bOf_y ⟨by assumption, ba_eq (by assumption)⟩), rfl⟩ | exact ⟨vB0 (bOf_n fun q => by first | exact absurd q.1 (by assumption) | exact bft (by assumption) q.1 | exact absurd (congrArg ByteArray.toList q.2) (by assumption)), rfl⟩
          · skip
            rw [vl_5 e0 e1 e2 e3 e4]
            repeat' ((conv => whnf); (first | refine k0 ?_ | refine jA fun _ => ?_ | refine jB fun _ => ?_ | refine kC (fun _ => ?_) fun _ => ?_ | (apply cx45; refine kl tx45 ?_) | refine jst ?_ | exact ⟨rfl, rfl⟩ | exact jV | fail))

theorem cx156 {P : Program} {X : FuncId → List Arg → List (Bool × List Cell) → List (Option (List Cell)) → Prop} {a : List Arg} {Q : List (Bool × List Cell) → List (Option (List Cell)) → Prop} (h : ∃ b vals outs, a = b ∧ D P X (.call 156 b vals outs) ∧ Q vals outs) : CallS P X 156 a Q := ⟨h⟩

set_option maxHeartbeats 2000000 in
set_option maxRecDepth 100000 in
theorem tx160 {v : Vl} (hv : v.s.size ≤ 2000000 := by first | assumption | omega | (simp; done) | (simp; omega)) : T 160 [.val true (vlC v)] [vB (vlOk v)] [none] := by
  refine w_call md [] Tryz.func160 rfl ?_
  by_cases e0 : v.k = 0
  · rw [vl_0 e0]
    repeat' ((conv => whnf); (first | refine k0 ?_ | refine jA fun _ => ?_ | refine jB fun _ => ?_ | refine kC (fun _ => ?_) fun _ => ?_ | (apply cx39; refine kl tx39 ?_) | refine jst ?_ | exact ⟨rfl, rfl⟩ | exact jV | fail))
    all_goals first | exact ⟨vB1 (bOf_y ⟨by assumption, ba_eq (by assumption)⟩), rfl⟩ | exact ⟨vB0 (bOf_n fun q => by first | exact absurd q.1 (by assumption) | exact bft (by assumption) q.1 | exact absurd (congrArg ByteArray.toList q.2) (by assumption)), rfl⟩
  · skip
    by_cases e1 : v.k = 1
    · rw [vl_1 e1]
      repeat' ((conv => whnf); (first | refine k0 ?_ | refine jA fun _ => ?_ | refine jB fun _ => ?_ | refine kC (fun _ => ?_) fun _ => ?_ | (apply cx39; refine kl tx39 ?_) | refine jst ?_ | exact ⟨rfl, rfl⟩ | exact jV | fail))
      all_goals first | exact ⟨vB1 (bOf_y ⟨by assumption, ba_eq (by assumption)⟩), rfl⟩ | exact ⟨vB0 (bOf_n fun q => by first | exact absurd q.1 (by assumption) | exact bft (by assumption) q.1 | exact absurd (congrArg ByteArray.toList q.2) (by assumption)), rfl⟩
    · skip
      by_cases e2 : v.k = 2
      · rw [vl_2 e2]
        repeat' ((conv => whnf); (first | refine k0 ?_ | refine jA fun _ => ?_ | refine jB fun _ => ?_ | refine kC (fun _ => ?_) fun _ => ?_ | (apply cx39; refine kl tx39 ?_) | refine jst ?_ | exact ⟨rfl, rfl⟩ | exact jV | fail))
        all_goals first | exact ⟨vB1 (bOf_y ⟨by assumption, ba_eq (by assumption)⟩), rfl⟩ | exact ⟨vB0 (bOf_n fun q => by first | exact absurd q.1 (by assumption) | exact bft (by assumption) q.1 | exact absurd (congrArg ByteArray.toList q.2) (by assumption)), rfl⟩
      · skip
        by_cases e3 : v.k = 3
        · rw [vl_3 e3]
          repeat' ((conv => whnf); (first | refine k0 ?_ | refine jA fun _ => ?_ | refine jB fun _ => ?_ | refine kC (fun _ => ?_) fun _ => ?_ | (apply cx39; refine kl tx39 ?_) | refine jst ?_ | exact ⟨rfl, rfl⟩ | exact jV | fail))
          all_goals first | exact ⟨vB1 (bOf_y ⟨by assumption, by omega⟩), rfl⟩ | exact ⟨vB0 (bOf_n fun q => by omega), rfl⟩
        · skip
          by_cases e4 : v.k = 4
          · rw [vl_4 e4]
            repeat' ((conv => whnf); (first | refine k0 ?_ | refine jA fun _ => ?_ | refine jB fun _ => ?_ | refine kC (fun _ => ?_) fun _ => ?_ | (apply cx39; refine kl tx39 ?_) | refine jst ?_ | exact ⟨rfl, rfl⟩ | exact jV | fail))
            all_goals first | exact ⟨vB1 (bOf_y ⟨by assumption, ba_eq (by assumption)⟩), rfl⟩ | exact ⟨vB0 (bOf_n fun q => by first | exact absurd q.1 (by assumption) | exact bft (by assumption) q.1 | exact absurd (congrArg ByteArray.toList q.2) (by assumption)), rfl⟩
          · skip
            rw [vl_5 e0 e1 e2 e3 e4]
            repeat' ((conv => whnf); (first | refine k0 ?_ | refine jA fun _ => ?_ | refine jB fun _ => ?_ | refine kC (fun _ => ?_) fun _ => ?_ | (apply cx39; refine kl tx39 ?_) | refine jst ?_ | exact ⟨rfl, rfl⟩ | exact jV | fail))

theorem cx160 {P : Program} {X : FuncId → List Arg → List (Bool × List Cell) → List (Option (List Cell)) → Prop} {a : List Arg} {Q : List (Bool × List Cell) → List (Option (List Cell)) → Prop} (h : ∃ b vals outs, a = b ∧ D P X (.call 160 b vals outs) ∧ Q vals outs) : CallS P X 160 a Q := ⟨h⟩

attribute [local irreducible] vlOk

noncomputable def ftV (p : Prt) (v : Vl) : Bool := vlOk v && bOf (v.k = p.type ∧ ¬ v.k = 0 ∨ v.k = 0 ∧ p.null = true)

theorem ftV_f {p : Prt} {v : Vl} (h : vlOk v = false) : ftV p v = false := by unfold ftV; rw [h]; rfl

theorem ftV_t {p : Prt} {v : Vl} (h : vlOk v = true) : ftV p v = bOf (v.k = p.type ∧ ¬ v.k = 0 ∨ v.k = 0 ∧ p.null = true) := by unfold ftV; rw [h]; rfl

noncomputable abbrev ptV (p : Prt) : Bool := bOf (inB p.col 0 9 = true ∧ inB p.type 1 4 = true)

set_option maxHeartbeats 2000000 in
set_option maxRecDepth 100000 in
theorem tx138 {p : Prt} {v : Vl} (hv : v.s.size ≤ 2000000 := by first | assumption | omega | (simp; done) | (simp; omega)) : T 138 [.val true (prtC p), .val true (vlC v)] [vB (ftV p v)] [none, none] := by
  refine w_call md [] Tryz.func138 rfl ?_
  obtain ⟨col, type, null, desc⟩ := p
  cases hk : vlOk v
  · rw [ftV_f hk]
    have hV : T 156 [.val true (vlC v)] [vB false] [none] := by
      have h := tx156 (v := v)
      rwa [hk] at h
    repeat' ((conv => whnf); (first | (apply cx156; refine kl (hV) ?_) | refine k0 ?_ | refine jA fun _ => ?_ | refine jB fun _ => ?_ | refine kC (fun _ => ?_) fun _ => ?_ | (apply cx156; refine kl tx156 ?_) | refine jst ?_ | exact ⟨rfl, rfl⟩ | exact jV | fail))
  · rw [ftV_t hk]
    have hV : T 156 [.val true (vlC v)] [vB true] [none] := by
      have h := tx156 (v := v)
      rwa [hk] at h
    cases null
    · repeat' ((conv => whnf); (first | (apply cx156; refine kl (hV) ?_) | refine k0 ?_ | refine jA fun _ => ?_ | refine jB fun _ => ?_ | refine kC (fun _ => ?_) fun _ => ?_ | (apply cx156; refine kl tx156 ?_) | refine jst ?_ | exact ⟨rfl, rfl⟩ | exact jV | fail))
      all_goals first | exact ⟨vB1 (bOf_y (.inl ⟨by assumption, by assumption⟩)), rfl⟩ | exact ⟨vB0 (bOf_n fun q => by rcases q with q | q <;> first | exact absurd q.1 (by assumption) | exact absurd (by assumption) q.2 | exact absurd q.2 Bool.false_ne_true), rfl⟩
    · repeat' ((conv => whnf); (first | (apply cx156; refine kl (hV) ?_) | refine k0 ?_ | refine jA fun _ => ?_ | refine jB fun _ => ?_ | refine kC (fun _ => ?_) fun _ => ?_ | (apply cx156; refine kl tx156 ?_) | refine jst ?_ | exact ⟨rfl, rfl⟩ | exact jV | fail))
      all_goals first | exact ⟨vB1 (bOf_y (.inl ⟨by assumption, by assumption⟩)), rfl⟩ | exact ⟨vB1 (bOf_y (.inr ⟨by assumption, rfl⟩)), rfl⟩ | exact ⟨vB0 (bOf_n fun q => by rcases q with q | q <;> first | exact absurd q.1 (by assumption) | exact absurd (by assumption) q.2), rfl⟩

theorem cx138 {P : Program} {X : FuncId → List Arg → List (Bool × List Cell) → List (Option (List Cell)) → Prop} {a : List Arg} {Q : List (Bool × List Cell) → List (Option (List Cell)) → Prop} (h : ∃ b vals outs, a = b ∧ D P X (.call 138 b vals outs) ∧ Q vals outs) : CallS P X 138 a Q := ⟨h⟩

set_option maxHeartbeats 2000000 in
set_option maxRecDepth 100000 in
theorem tx141 {p : Prt} {v : Vl} (hv : v.s.size ≤ 2000000 := by first | assumption | omega | (simp; done) | (simp; omega)) : T 141 [.val true (prtC p), .val true (vlC v)] [vB (ftV p v)] [none, none] := by
  refine w_call md [] Tryz.func141 rfl ?_
  obtain ⟨col, type, null, desc⟩ := p
  cases hk : vlOk v
  · rw [ftV_f hk]
    have hV : T 160 [.val true (vlC v)] [vB false] [none] := by
      have h := tx160 (v := v)
      rwa [hk] at h
    repeat' ((conv => whnf); (first | (apply cx160; refine kl (hV) ?_) | refine k0 ?_ | refine jA fun _ => ?_ | refine jB fun _ => ?_ | refine kC (fun _ => ?_) fun _ => ?_ | (apply cx160; refine kl tx160 ?_) | refine jst ?_ | exact ⟨rfl, rfl⟩ | exact jV | fail))
  · rw [ftV_t hk]
    have hV : T 160 [.val true (vlC v)] [vB true] [none] := by
      have h := tx160 (v := v)
      rwa [hk] at h
    cases null
    · repeat' ((conv => whnf); (first | (apply cx160; refine kl (hV) ?_) | refine k0 ?_ | refine jA fun _ => ?_ | refine jB fun _ => ?_ | refine kC (fun _ => ?_) fun _ => ?_ | (apply cx160; refine kl tx160 ?_) | refine jst ?_ | exact ⟨rfl, rfl⟩ | exact jV | fail))
      all_goals first | exact ⟨vB1 (bOf_y (.inl ⟨by assumption, by assumption⟩)), rfl⟩ | exact ⟨vB0 (bOf_n fun q => by rcases q with q | q <;> first | exact absurd q.1 (by assumption) | exact absurd (by assumption) q.2 | exact absurd q.2 Bool.false_ne_true), rfl⟩
    · repeat' ((conv => whnf); (first | (apply cx160; refine kl (hV) ?_) | refine k0 ?_ | refine jA fun _ => ?_ | refine jB fun _ => ?_ | refine kC (fun _ => ?_) fun _ => ?_ | (apply cx160; refine kl tx160 ?_) | refine jst ?_ | exact ⟨rfl, rfl⟩ | exact jV | fail))
      all_goals first | exact ⟨vB1 (bOf_y (.inl ⟨by assumption, by assumption⟩)), rfl⟩ | exact ⟨vB1 (bOf_y (.inr ⟨by assumption, rfl⟩)), rfl⟩ | exact ⟨vB0 (bOf_n fun q => by rcases q with q | q <;> first | exact absurd q.1 (by assumption) | exact absurd (by assumption) q.2), rfl⟩

theorem cx141 {P : Program} {X : FuncId → List Arg → List (Bool × List Cell) → List (Option (List Cell)) → Prop} {a : List Arg} {Q : List (Bool × List Cell) → List (Option (List Cell)) → Prop} (h : ∃ b vals outs, a = b ∧ D P X (.call 141 b vals outs) ∧ Q vals outs) : CallS P X 141 a Q := ⟨h⟩

set_option maxRecDepth 100000 in
theorem tx137 {p : Prt} : T 137 [.val true (prtC p)] [vB (ptV p)] [none] := by
  refine w_call md [] Tryz.func137 rfl ?_
  repeat' ((conv => whnf); (first | refine k0 ?_ | refine jA fun _ => ?_ | refine jB fun _ => ?_ | refine kC (fun _ => ?_) fun _ => ?_ | (apply cx45; refine kl tx45 ?_) | refine jst ?_ | exact ⟨rfl, rfl⟩ | exact jV | fail))
  all_goals first | exact ⟨vB1 (bOf_y ⟨by assumption, by assumption⟩), rfl⟩ | exact ⟨vB0 (bOf_n fun q => by first | exact bft (by assumption) q.1 | exact bft (by assumption) q.2), rfl⟩

theorem cx137 {P : Program} {X : FuncId → List Arg → List (Bool × List Cell) → List (Option (List Cell)) → Prop} {a : List Arg} {Q : List (Bool × List Cell) → List (Option (List Cell)) → Prop} (h : ∃ b vals outs, a = b ∧ D P X (.call 137 b vals outs) ∧ Q vals outs) : CallS P X 137 a Q := ⟨h⟩

set_option maxRecDepth 100000 in
theorem tx140 {p : Prt} : T 140 [.val true (prtC p)] [vB (ptV p)] [none] := by
  refine w_call md [] Tryz.func140 rfl ?_
  repeat' ((conv => whnf); (first | refine k0 ?_ | refine jA fun _ => ?_ | refine jB fun _ => ?_ | refine kC (fun _ => ?_) fun _ => ?_ | (apply cx39; refine kl tx39 ?_) | refine jst ?_ | exact ⟨rfl, rfl⟩ | exact jV | fail))
  all_goals first | exact ⟨vB1 (bOf_y ⟨by assumption, by assumption⟩), rfl⟩ | exact ⟨vB0 (bOf_n fun q => by first | exact bft (by assumption) q.1 | exact bft (by assumption) q.2), rfl⟩

theorem cx140 {P : Program} {X : FuncId → List Arg → List (Bool × List Cell) → List (Option (List Cell)) → Prop} {a : List Arg} {Q : List (Bool × List Cell) → List (Option (List Cell)) → Prop} (h : ∃ b vals outs, a = b ∧ D P X (.call 140 b vals outs) ∧ Q vals outs) : CallS P X 140 a Q := ⟨h⟩

structure PlOk (l : List Prt) : Prop where
  len : l.length ≤ 6
  prt : ∀ i (h : i < l.length), ptV l[i] = true

noncomputable abbrev plOk (l : List Prt) : Bool := bOf (PlOk l)

structure FaOk (l : List Prt) (r : List Vl) : Prop where
  len : r.length ≤ l.length
  fit : ∀ i (h : i < r.length) (h2 : i < l.length), ftV l[i] r[i] = true

noncomputable abbrev faOk (l : List Prt) (r : List Vl) : Bool := bOf (FaOk l r)

noncomputable abbrev roOk (l : List Prt) (r : List Vl) : Bool := bOf (plOk l = true ∧ r.length = l.length ∧ faOk l r = true)

set_option maxRecDepth 100000 in
theorem tx113 {l : List Prt} (hl : l.length ≤ 2000000 := by first | assumption | omega | (simp; done) | (simp; omega)) : T 113 [aE l] [vB (plOk l)] [none] := by
  refine w_call md [] Tryz.func113 rfl ?_
  repeat' ((conv => whnf); (first | refine k0 ?_ | refine jA fun _ => ?_ | refine jB fun _ => ?_ | refine kC (fun _ => ?_) fun _ => ?_ | (apply cx137; refine kl tx137 ?_) | refine jst ?_ | exact ⟨rfl, rfl⟩ | exact jV | fail))
  conv => whnf
  refine loopk (ι := Nat) (fun i => i ≤ l.length ∧ (i ≤ 6 ∧ ∀ j (h : j < l.length), j < i → ptV l[j] = true)) (fun i => l.length - i) (0) [5, 6] (fun i => [(7, .v false [i6 i])]) [none] ?_
  refine ⟨⟨by omega, by omega, by intros; omega⟩, ?_, fun i hi => ?_⟩
  · exact jw []
  · repeat' ((conv => whnf); (first | refine k0 ?_ | (apply cx137; refine kl tx137 ?_) | refine jst ?_ | exact ⟨rfl, rfl⟩ | exact jV | fail))
    conv => whnf
    refine ⟨fun hlt => ?_, fun hge => ?_⟩
    · have hi2 : i < l.length := by omega
      by_cases h6 : 6 ≤ i
      · repeat' ((conv => whnf); (first | refine k0 ?_ | refine jA fun _ => ?_ | refine jB fun _ => ?_ | refine kC (fun _ => ?_) fun _ => ?_ | (apply cx137; refine kl tx137 ?_) | refine jst ?_ | exact ⟨rfl, rfl⟩ | exact jV | fail))
        exact ⟨vB0 (bOf_n fun q => by have := q.len; omega), rfl⟩
      · repeat' ((conv => whnf); (first | (apply cx137; refine kl (tx137 (p := l[i])) ?_) | refine k0 ?_ | refine jA fun _ => ?_ | refine jB fun _ => ?_ | refine kC (fun _ => ?_) fun _ => ?_ | (apply cx137; refine kl tx137 ?_) | refine jst ?_ | exact ⟨rfl, rfl⟩ | exact jV | fail))
        · refine ⟨⟨i + 1, by omega, by omega, all_suc hi.2.2 hi2 (by assumption)⟩, by simp only; omega, ?_⟩
          exact jw []
        · exact ⟨vB0 (bOf_n fun q => bft (by assumption) (q.prt i hi2)), rfl⟩
    · obtain rfl : i = l.length := by omega
      repeat' ((conv => whnf); (first | refine k0 ?_ | refine jA fun _ => ?_ | refine jB fun _ => ?_ | refine kC (fun _ => ?_) fun _ => ?_ | (apply cx137; refine kl tx137 ?_) | refine jst ?_ | exact ⟨rfl, rfl⟩ | exact jV | fail))
      exact ⟨vB1 (bOf_y ⟨hi.2.1, fun j h => hi.2.2 j h h⟩), rfl⟩

theorem cx113 {P : Program} {X : FuncId → List Arg → List (Bool × List Cell) → List (Option (List Cell)) → Prop} {a : List Arg} {Q : List (Bool × List Cell) → List (Option (List Cell)) → Prop} (h : ∃ b vals outs, a = b ∧ D P X (.call 113 b vals outs) ∧ Q vals outs) : CallS P X 113 a Q := ⟨h⟩

set_option maxRecDepth 100000 in
theorem tx122 {l : List Prt} (hl : l.length ≤ 2000000 := by first | assumption | omega | (simp; done) | (simp; omega)) : T 122 [aE l] [vB (plOk l)] [none] := by
  refine w_call md [] Tryz.func122 rfl ?_
  repeat' ((conv => whnf); (first | refine k0 ?_ | refine jA fun _ => ?_ | refine jB fun _ => ?_ | refine kC (fun _ => ?_) fun _ => ?_ | (apply cx140; refine kl tx140 ?_) | refine jst ?_ | exact ⟨rfl, rfl⟩ | exact jV | fail))
  conv => whnf
  refine loopk (ι := Nat) (fun i => i ≤ l.length ∧ ∀ j (h : j < l.length), j < i → ptV l[j] = true) (fun i => l.length - i) (0) [0] (fun i => [(3, .v false [i6 i])]) [none] ?_
  refine ⟨⟨by omega, by intros; omega⟩, ?_, fun i hi => ?_⟩
  · exact jw []
  · repeat' ((conv => whnf); (first | refine k0 ?_ | (apply cx140; refine kl tx140 ?_) | refine jst ?_ | exact ⟨rfl, rfl⟩ | exact jV | fail))
    conv => whnf
    refine ⟨fun hlt => ?_, fun hge => ?_⟩
    · have hi2 : i < l.length := by omega
      repeat' ((conv => whnf); (first | (apply cx140; refine kl (tx140 (p := l[i])) ?_) | refine k0 ?_ | refine jA fun _ => ?_ | refine jB fun _ => ?_ | refine kC (fun _ => ?_) fun _ => ?_ | (apply cx140; refine kl tx140 ?_) | refine jst ?_ | exact ⟨rfl, rfl⟩ | exact jV | fail))
      · refine ⟨⟨i + 1, by omega, all_suc hi.2 hi2 (by assumption)⟩, by simp only; omega, ?_⟩
        exact jw []
      · exact ⟨vB0 (bOf_n fun q => bft (by assumption) (q.prt i hi2)), rfl⟩
    · obtain rfl : i = l.length := by omega
      repeat' ((conv => whnf); (first | refine k0 ?_ | refine jA fun _ => ?_ | refine jB fun _ => ?_ | refine kC (fun _ => ?_) fun _ => ?_ | (apply cx140; refine kl tx140 ?_) | refine jst ?_ | exact ⟨rfl, rfl⟩ | exact jV | fail))
      · exact ⟨vB1 (bOf_y ⟨by omega, fun j h => hi.2 j h h⟩), rfl⟩
      · exact ⟨vB0 (bOf_n fun q => by have := q.len; omega), rfl⟩

theorem cx122 {P : Program} {X : FuncId → List Arg → List (Bool × List Cell) → List (Option (List Cell)) → Prop} {a : List Arg} {Q : List (Bool × List Cell) → List (Option (List Cell)) → Prop} (h : ∃ b vals outs, a = b ∧ D P X (.call 122 b vals outs) ∧ Q vals outs) : CallS P X 122 a Q := ⟨h⟩

set_option maxRecDepth 100000 in
theorem tx114 {l : List Prt} {r : List Vl} (hl : l.length ≤ 2000000 := by first | assumption | omega | (simp; done) | (simp; omega)) (hr : r.length ≤ 2000000 ∧ ∀ i (h : i < r.length), r[i].s.size ≤ 2000000 := by first | assumption | omega | (simp; done) | (simp; omega)) : T 114 [aE l, aE r] [vB (faOk l r)] [none, none] := by
  refine w_call md [] Tryz.func114 rfl ?_
  obtain ⟨hr, hrs⟩ := hr
  by_cases hlen : r.length ≤ l.length
  · repeat' ((conv => whnf); (first | refine k0 ?_ | refine jA fun _ => ?_ | refine jB fun _ => ?_ | refine kC (fun _ => ?_) fun _ => ?_ | (apply cx138; refine kl tx138 ?_) | refine jst ?_ | exact ⟨rfl, rfl⟩ | exact jV | fail))
    conv => whnf
    refine loopk (ι := Nat) (fun i => i ≤ r.length ∧ ∀ j (h : j < r.length), j < i → ∀ (h2 : j < l.length), ftV l[j] r[j] = true) (fun i => r.length - i) (0) [0, 12, 13] (fun i => [(14, .v false [i6 i])]) [none, none] ?_
    refine ⟨⟨by omega, by intros; omega⟩, ?_, fun i hi => ?_⟩
    · exact jw []
    · repeat' ((conv => whnf); (first | refine k0 ?_ | (apply cx138; refine kl tx138 ?_) | refine jst ?_ | exact ⟨rfl, rfl⟩ | exact jV | fail))
      conv => whnf
      refine ⟨fun hlt => ?_, fun hge => ?_⟩
      · have hi2 : i < r.length := by omega
        have hi3 : i < l.length := by omega
        have hs := hrs i hi2
        repeat' ((conv => whnf); (first | (apply cx138; refine kl (tx138 (p := l[i]) (v := r[i])) ?_) | refine k0 ?_ | refine jA fun _ => ?_ | refine jB fun _ => ?_ | refine kC (fun _ => ?_) fun _ => ?_ | (apply cx138; refine kl tx138 ?_) | refine jst ?_ | exact ⟨rfl, rfl⟩ | exact jV | fail))
        · refine ⟨⟨i + 1, by omega, all_suc hi.2 hi2 (fun _ => by assumption)⟩, by simp only; omega, ?_⟩
          exact jw []
        · exact ⟨vB0 (bOf_n fun q => bft (by assumption) (q.fit i hi2 hi3)), rfl⟩
      · obtain rfl : i = r.length := by omega
        repeat' ((conv => whnf); (first | refine k0 ?_ | refine jA fun _ => ?_ | refine jB fun _ => ?_ | refine kC (fun _ => ?_) fun _ => ?_ | (apply cx138; refine kl tx138 ?_) | refine jst ?_ | exact ⟨rfl, rfl⟩ | exact jV | fail))
        exact ⟨vB1 (bOf_y ⟨hlen, fun j h h2 => hi.2 j h h h2⟩), rfl⟩
  · repeat' ((conv => whnf); (first | refine k0 ?_ | refine jA fun _ => ?_ | refine jB fun _ => ?_ | refine kC (fun _ => ?_) fun _ => ?_ | (apply cx138; refine kl tx138 ?_) | refine jst ?_ | exact ⟨rfl, rfl⟩ | exact jV | fail))
    exact ⟨vB0 (bOf_n fun q => hlen q.len), rfl⟩

theorem cx114 {P : Program} {X : FuncId → List Arg → List (Bool × List Cell) → List (Option (List Cell)) → Prop} {a : List Arg} {Q : List (Bool × List Cell) → List (Option (List Cell)) → Prop} (h : ∃ b vals outs, a = b ∧ D P X (.call 114 b vals outs) ∧ Q vals outs) : CallS P X 114 a Q := ⟨h⟩

set_option maxRecDepth 100000 in
theorem tx123 {l : List Prt} {r : List Vl} (hl : l.length ≤ 2000000 := by first | assumption | omega | (simp; done) | (simp; omega)) (hr : r.length ≤ 2000000 ∧ ∀ i (h : i < r.length), r[i].s.size ≤ 2000000 := by first | assumption | omega | (simp; done) | (simp; omega)) : T 123 [aE l, aE r] [vB (faOk l r)] [none, none] := by
  refine w_call md [] Tryz.func123 rfl ?_
  obtain ⟨hr, hrs⟩ := hr
  by_cases hlen : r.length ≤ l.length
  · repeat' ((conv => whnf); (first | refine k0 ?_ | refine jA fun _ => ?_ | refine jB fun _ => ?_ | refine kC (fun _ => ?_) fun _ => ?_ | (apply cx141; refine kl tx141 ?_) | refine jst ?_ | exact ⟨rfl, rfl⟩ | exact jV | fail))
    conv => whnf
    refine loopk (ι := Nat) (fun i => i ≤ r.length ∧ ∀ j (h : j < r.length), j < i → ∀ (h2 : j < l.length), ftV l[j] r[j] = true) (fun i => r.length - i) (0) [0, 1] (fun i => [(5, .v false [i6 i])]) [none, none] ?_
    refine ⟨⟨by omega, by intros; omega⟩, ?_, fun i hi => ?_⟩
    · exact jw []
    · repeat' ((conv => whnf); (first | refine k0 ?_ | (apply cx141; refine kl tx141 ?_) | refine jst ?_ | exact ⟨rfl, rfl⟩ | exact jV | fail))
      conv => whnf
      refine ⟨fun hlt => ?_, fun hge => ?_⟩
      · have hi2 : i < r.length := by omega
        have hi3 : i < l.length := by omega
        have hs := hrs i hi2
        repeat' ((conv => whnf); (first | (apply cx141; refine kl (tx141 (p := l[i]) (v := r[i])) ?_) | refine k0 ?_ | refine jA fun _ => ?_ | refine jB fun _ => ?_ | refine kC (fun _ => ?_) fun _ => ?_ | (apply cx141; refine kl tx141 ?_) | refine jst ?_ | exact ⟨rfl, rfl⟩ | exact jV | fail))
        · refine ⟨⟨i + 1, by omega, all_suc hi.2 hi2 (fun _ => by assumption)⟩, by simp only; omega, ?_⟩
          exact jw []
        · exact ⟨vB0 (bOf_n fun q => bft (by assumption) (q.fit i hi2 hi3)), rfl⟩
      · obtain rfl : i = r.length := by omega
        repeat' ((conv => whnf); (first | refine k0 ?_ | refine jA fun _ => ?_ | refine jB fun _ => ?_ | refine kC (fun _ => ?_) fun _ => ?_ | (apply cx141; refine kl tx141 ?_) | refine jst ?_ | exact ⟨rfl, rfl⟩ | exact jV | fail))
        exact ⟨vB1 (bOf_y ⟨hlen, fun j h h2 => hi.2 j h h h2⟩), rfl⟩
  · repeat' ((conv => whnf); (first | refine k0 ?_ | refine jA fun _ => ?_ | refine jB fun _ => ?_ | refine kC (fun _ => ?_) fun _ => ?_ | (apply cx141; refine kl tx141 ?_) | refine jst ?_ | exact ⟨rfl, rfl⟩ | exact jV | fail))
    exact ⟨vB0 (bOf_n fun q => hlen q.len), rfl⟩

theorem cx123 {P : Program} {X : FuncId → List Arg → List (Bool × List Cell) → List (Option (List Cell)) → Prop} {a : List Arg} {Q : List (Bool × List Cell) → List (Option (List Cell)) → Prop} (h : ∃ b vals outs, a = b ∧ D P X (.call 123 b vals outs) ∧ Q vals outs) : CallS P X 123 a Q := ⟨h⟩

set_option maxRecDepth 100000 in
theorem tx85 {l : List Prt} {r : List Vl} (hl : l.length ≤ 2000000 := by first | assumption | omega | (simp; done) | (simp; omega)) (hr : r.length ≤ 2000000 ∧ ∀ i (h : i < r.length), r[i].s.size ≤ 2000000 := by first | assumption | omega | (simp; done) | (simp; omega)) : T 85 [aE l, aE r] [vB (roOk l r)] [none, none] := by
  refine w_call md [] Tryz.func85 rfl ?_
  have hr1 := hr.1
  repeat' ((conv => whnf); (first | refine k0 ?_ | refine jA fun _ => ?_ | refine jB fun _ => ?_ | refine kC (fun _ => ?_) fun _ => ?_ | (apply cx113; refine kl tx113 ?_) | (apply cx114; refine kl tx114 ?_) | refine jst ?_ | exact ⟨rfl, rfl⟩ | exact jV | fail))
  all_goals first | exact ⟨vB1 (bOf_y ⟨by assumption, by omega, by assumption⟩), rfl⟩ | exact ⟨vB0 (bOf_n fun q => by first | exact bft (by assumption) q.1 | (have := q.2.1; omega) | exact bft (by assumption) q.2.2), rfl⟩

theorem cx85 {P : Program} {X : FuncId → List Arg → List (Bool × List Cell) → List (Option (List Cell)) → Prop} {a : List Arg} {Q : List (Bool × List Cell) → List (Option (List Cell)) → Prop} (h : ∃ b vals outs, a = b ∧ D P X (.call 85 b vals outs) ∧ Q vals outs) : CallS P X 85 a Q := ⟨h⟩

set_option maxRecDepth 100000 in
theorem tx92 {l : List Prt} {r : List Vl} (hl : l.length ≤ 2000000 := by first | assumption | omega | (simp; done) | (simp; omega)) (hr : r.length ≤ 2000000 ∧ ∀ i (h : i < r.length), r[i].s.size ≤ 2000000 := by first | assumption | omega | (simp; done) | (simp; omega)) : T 92 [aE l, aE r] [vB (roOk l r)] [none, none] := by
  refine w_call md [] Tryz.func92 rfl ?_
  have hr1 := hr.1
  repeat' ((conv => whnf); (first | refine k0 ?_ | refine jA fun _ => ?_ | refine jB fun _ => ?_ | refine kC (fun _ => ?_) fun _ => ?_ | (apply cx122; refine kl tx122 ?_) | (apply cx123; refine kl tx123 ?_) | refine jst ?_ | exact ⟨rfl, rfl⟩ | exact jV | fail))
  all_goals first | exact ⟨vB1 (bOf_y ⟨by assumption, by omega, by assumption⟩), rfl⟩ | exact ⟨vB0 (bOf_n fun q => by first | exact bft (by assumption) q.1 | (have := q.2.1; omega) | exact bft (by assumption) q.2.2), rfl⟩

theorem cx92 {P : Program} {X : FuncId → List Arg → List (Bool × List Cell) → List (Option (List Cell)) → Prop} {a : List Arg} {Q : List (Bool × List Cell) → List (Option (List Cell)) → Prop} (h : ∃ b vals outs, a = b ∧ D P X (.call 92 b vals outs) ∧ Q vals outs) : CallS P X 92 a Q := ⟨h⟩
end

end Go.Proofs.YtddikflnjloagaaGreatDoor
