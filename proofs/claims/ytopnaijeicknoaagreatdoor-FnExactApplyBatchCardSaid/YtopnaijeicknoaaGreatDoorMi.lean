/- Functions of the program, each with what it gives back. -/
import Derived.Test.YtopnaijeicknoaaGreatDoorKe
import Derived.Test.YtopnaijeicknoaaGreatDoorChecked
import Derived.IntWalk
import Derived.Test.YtopnaijeicknoaaGreatDoorMh
namespace Go.Proofs.YtopnaijeicknoaaGreatDoor
open Go Go.RowKit Go.IntWalk
open Enc (sz cs)
attribute [local irreducible] IntKind.wrap

attribute [local irreducible] frOk nmOk nmsOk bOf fstI
theorem bNt {b : Bool} (h : ¬ b = true) : b = false := by cases b with | true => exact absurd rfl h | false => rfl
theorem vI1 {b : Int} {a : Int} (h : b = a) : [(false, [Cell.prim (Value.int .i64 a)])] = [vI b] := by rw [h]

set_option maxHeartbeats 2000000 in
set_option maxRecDepth 100000 in
theorem tx74 {d : Df} (hd : zDf d ≤ 2000000 := by first | assumption | omega | (simp; done) | (simp; omega)) : T 74 [.val true (dfC false d)] [vI (cdN d)] [none] := by
  refine w_call md [] Tryz.func74 rfl ?_
  obtain ⟨q1, q2, q3, q4, q5, q6⟩ := zDf_b hd
  by_cases h1 : nmsOk d = true
  · have hN : T 121 [.val true (dfC false d)] [vB true] [none] := by
      have h := tx121 (d := d)
      rwa [h1] at h
    by_cases hl : inB (d.cols.length : Int) 1 6 = true
    · have hL : T 48 [aI d.cols.length, aI 1, aI 6] [vB true] [none, none, none] := by
        have h := tx48 (n := d.cols.length) (l := 1) (h := 6)
        rwa [hl] at h
      repeat' ((conv => whnf); (first | (apply cx121; refine kl (hN) ?_) | (apply cx48; refine kl (hL) ?_) | refine k0 ?_ | refine jA fun _ => ?_ | refine jB fun _ => ?_ | refine kC (fun _ => ?_) fun _ => ?_ | (apply cx121; refine kl tx121 ?_) | (apply cx48; refine kl tx48 ?_) | (apply cx122; refine kl tx122 ?_) | (apply cx123; refine kl tx123 ?_) | refine jst ?_ | exact ⟨rfl, rfl⟩ | exact jV | fail))
      conv => whnf
      refine loopk (ι := Nat) (fun i => i ≤ d.cols.length ∧ ∀ j (h : j < d.cols.length), j < i → inB d.cols[j].type 1 4 = true) (fun i => d.cols.length - i) (0) [1, 18, 19] (fun i => [(20, .v false [i6 i])]) [none, none] ?_
      refine ⟨⟨by omega, by intros; omega⟩, ?_, fun i hi => ?_⟩
      · exact jw []
      · repeat' ((conv => whnf); (first | refine k0 ?_ | (apply cx121; refine kl tx121 ?_) | (apply cx48; refine kl tx48 ?_) | (apply cx122; refine kl tx122 ?_) | (apply cx123; refine kl tx123 ?_) | refine jst ?_ | exact ⟨rfl, rfl⟩ | exact jV | fail))
        conv => whnf
        refine ⟨fun hlt => ?_, fun hge => ?_⟩
        · have hi2 : i < d.cols.length := by omega
          repeat' ((conv => whnf); (first | refine k0 ?_ | refine jA fun _ => ?_ | refine jB fun _ => ?_ | refine kC (fun _ => ?_) fun _ => ?_ | (apply cx121; refine kl tx121 ?_) | (apply cx48; refine kl tx48 ?_) | (apply cx122; refine kl tx122 ?_) | (apply cx123; refine kl tx123 ?_) | refine jst ?_ | exact ⟨rfl, rfl⟩ | exact jV | fail))
          · refine ⟨⟨i + 1, by omega, all_suc hi.2 hi2 ‹inB d.cols[i].type 1 4 = true›⟩, by simp only; omega, ?_⟩
            exact jw []
          · exact ⟨vI1 (cdN_2 h1 (bOf_n fun q => bft ‹inB d.cols[i].type 1 4 = false› (q.type i hi2))), rfl⟩
        · obtain rfl : i = d.cols.length := by omega
          have h2 : typOk d = true := bOf_y ⟨hl, fun j h => hi.2 j h h⟩
          by_cases h3 : oncOk d = true
          · have hT : T 122 [.val true (dfC false d)] [vB false] [none] := by
              have h := tx122 (d := d)
              rwa [h3] at h
            by_cases h4 : 2 < d.idx.length
            · repeat' ((conv => whnf); (first | (apply cx122; refine kl (hT) ?_) | refine k0 ?_ | refine jA fun _ => ?_ | refine jB fun _ => ?_ | refine kC (fun _ => ?_) fun _ => ?_ | (apply cx121; refine kl tx121 ?_) | (apply cx48; refine kl tx48 ?_) | (apply cx122; refine kl tx122 ?_) | (apply cx123; refine kl tx123 ?_) | refine jst ?_ | exact ⟨rfl, rfl⟩ | exact jV | fail))
              exact ⟨vI1 (cdN_6 h1 h2 h3 h4), rfl⟩
            · repeat' ((conv => whnf); (first | (apply cx122; refine kl (hT) ?_) | refine k0 ?_ | refine jA fun _ => ?_ | refine jB fun _ => ?_ | refine kC (fun _ => ?_) fun _ => ?_ | (apply cx121; refine kl tx121 ?_) | (apply cx48; refine kl tx48 ?_) | (apply cx122; refine kl tx122 ?_) | (apply cx123; refine kl tx123 ?_) | refine jst ?_ | exact ⟨rfl, rfl⟩ | exact jV | fail))
              conv => whnf
              refine loopk (ι := Nat) (fun i => i ≤ d.idx.length ∧ ∀ j (h : j < d.idx.length), j < i → prtOk d.cols.length d.idx[j].parts = true) (fun i => d.idx.length - i) (0) [1, 36, 37] (fun i => [(38, .v false [i6 i])]) [none, none] ?_
              refine ⟨⟨by omega, by intros; omega⟩, ?_, fun i hi => ?_⟩
              · exact jw []
              · repeat' ((conv => whnf); (first | refine k0 ?_ | (apply cx121; refine kl tx121 ?_) | (apply cx48; refine kl tx48 ?_) | (apply cx122; refine kl tx122 ?_) | (apply cx123; refine kl tx123 ?_) | refine jst ?_ | exact ⟨rfl, rfl⟩ | exact jV | fail))
                conv => whnf
                refine ⟨fun hlt => ?_, fun hge => ?_⟩
                · have hi2 : i < d.idx.length := by omega
                  have hb := (q6 i hi2).2
                  repeat' ((conv => whnf); (first | (apply cx123; refine kl (tx123 (d := d) (l := d.idx[i].parts)) ?_) | refine k0 ?_ | refine jA fun _ => ?_ | refine jB fun _ => ?_ | refine kC (fun _ => ?_) fun _ => ?_ | (apply cx121; refine kl tx121 ?_) | (apply cx48; refine kl tx48 ?_) | (apply cx122; refine kl tx122 ?_) | (apply cx123; refine kl tx123 ?_) | refine jst ?_ | exact ⟨rfl, rfl⟩ | exact jV | fail))
                  · refine ⟨⟨i + 1, by omega, all_suc hi.2 hi2 ‹prtOk _ _ = true›⟩, by simp only; omega, ?_⟩
                    exact jw []
                  · exact ⟨vI1 (cdN_5 h1 h2 h3 h4 (bOf_n fun q => bft ‹prtOk _ _ = false› (q.idx i hi2))), rfl⟩
                · obtain rfl : i = d.idx.length := by omega
                  have h5i : ∀ j (h : j < d.idx.length), prtOk d.cols.length d.idx[j].parts = true := fun j h => hi.2 j h h
                  by_cases h5p : prtOk d.cols.length d.prim = true
                  · have hpP : T 123 [.val true (dfC false d), aE d.prim] [vB true] [none, none] := by
                      have h := tx123 (d := d) (l := d.prim)
                      rwa [h5p] at h
                    repeat' ((conv => whnf); (first | (apply cx123; refine kl (hpP) ?_) | refine k0 ?_ | refine jA fun _ => ?_ | refine jB fun _ => ?_ | refine kC (fun _ => ?_) fun _ => ?_ | (apply cx121; refine kl tx121 ?_) | (apply cx48; refine kl tx48 ?_) | (apply cx122; refine kl tx122 ?_) | (apply cx123; refine kl tx123 ?_) | refine jst ?_ | exact ⟨rfl, rfl⟩ | exact jV | fail))
                    have hP := bOf_t h5p
                    have hpc : ∀ i (h : i < d.prim.length), 0 ≤ d.prim[i].col ∧ d.prim[i].col.toNat < d.cols.length := fun i h => by
                      have := inB_iff.1 (hP.prt i h).1
                      omega
                    conv => whnf
                    refine loopk (ι := Nat) (fun i => i ≤ d.prim.length ∧ ∀ j (h : j < d.prim.length), j < i → ¬ nulI d j h) (fun i => d.prim.length - i) (0) [1, 54, 55] (fun i => [(56, .v false [i6 i])]) [none, none] ?_
                    refine ⟨⟨by omega, by intros; omega⟩, ?_, fun a ha => ?_⟩
                    · exact jw []
                    · repeat' ((conv => whnf); (first | refine k0 ?_ | (apply cx121; refine kl tx121 ?_) | (apply cx48; refine kl tx48 ?_) | (apply cx122; refine kl tx122 ?_) | (apply cx123; refine kl tx123 ?_) | refine jst ?_ | exact ⟨rfl, rfl⟩ | exact jV | fail))
                      conv => whnf
                      refine ⟨fun hlt => ?_, fun hge => ?_⟩
                      · have ha2 : a < d.prim.length := by omega
                        obtain ⟨hp1, hp2⟩ := hpc a ha2
                        repeat' ((conv => whnf); (first | refine And.intro ⟨by omega, by omega⟩ (Exists.intro _ (And.intro (rdI (i := d.prim[a].col.toNat) (by omega) (by omega)) ?_)) | refine k0 ?_ | refine jA fun _ => ?_ | refine jB fun _ => ?_ | refine kC (fun _ => ?_) fun _ => ?_ | (apply cx121; refine kl tx121 ?_) | (apply cx48; refine kl tx48 ?_) | (apply cx122; refine kl tx122 ?_) | (apply cx123; refine kl tx123 ?_) | refine jst ?_ | exact ⟨rfl, rfl⟩ | exact jV | fail))
                        cases hv : d.cols[d.prim[a].col.toNat].null
                        · repeat' ((conv => whnf); (first | refine k0 ?_ | refine jA fun _ => ?_ | refine jB fun _ => ?_ | refine kC (fun _ => ?_) fun _ => ?_ | (apply cx121; refine kl tx121 ?_) | (apply cx48; refine kl tx48 ?_) | (apply cx122; refine kl tx122 ?_) | (apply cx123; refine kl tx123 ?_) | refine jst ?_ | exact ⟨rfl, rfl⟩ | exact jV | fail))
                          refine ⟨⟨a + 1, by omega, all_suc ha.2 ha2 (fun q => by
                            obtain ⟨_, q⟩ := q
                            exact bft hv q)⟩, by simp only; omega, ?_⟩
                          exact jw []
                        · repeat' ((conv => whnf); (first | refine k0 ?_ | refine jA fun _ => ?_ | refine jB fun _ => ?_ | refine kC (fun _ => ?_) fun _ => ?_ | (apply cx121; refine kl tx121 ?_) | (apply cx48; refine kl tx48 ?_) | (apply cx122; refine kl tx122 ?_) | (apply cx123; refine kl tx123 ?_) | refine jst ?_ | exact ⟨rfl, rfl⟩ | exact jV | fail))
                          exact ⟨vI1 (cdN_4 h1 h2 h3 h4 (bOf_y ⟨h5i, h5p⟩) ⟨a, ha2, hp2, hv⟩), rfl⟩
                      · obtain rfl : a = d.prim.length := by omega
                        repeat' ((conv => whnf); (first | refine k0 ?_ | refine jA fun _ => ?_ | refine jB fun _ => ?_ | refine kC (fun _ => ?_) fun _ => ?_ | (apply cx121; refine kl tx121 ?_) | (apply cx48; refine kl tx48 ?_) | (apply cx122; refine kl tx122 ?_) | (apply cx123; refine kl tx123 ?_) | refine jst ?_ | exact ⟨rfl, rfl⟩ | exact jV | fail))
                        exact ⟨vI1 (cdN_0 h1 h2 h3 h4 (bOf_y ⟨h5i, h5p⟩) (fun q => by
                          obtain ⟨i, hi, q⟩ := q
                          exact ha.2 i hi hi q)), rfl⟩
                  · have hpP : T 123 [.val true (dfC false d), aE d.prim] [vB false] [none, none] := by
                      have h := tx123 (d := d) (l := d.prim)
                      rwa [bNt h5p] at h
                    repeat' ((conv => whnf); (first | (apply cx123; refine kl (hpP) ?_) | refine k0 ?_ | refine jA fun _ => ?_ | refine jB fun _ => ?_ | refine kC (fun _ => ?_) fun _ => ?_ | (apply cx121; refine kl tx121 ?_) | (apply cx48; refine kl tx48 ?_) | (apply cx122; refine kl tx122 ?_) | (apply cx123; refine kl tx123 ?_) | refine jst ?_ | exact ⟨rfl, rfl⟩ | exact jV | fail))
                    exact ⟨vI1 (cdN_5 h1 h2 h3 h4 (bOf_n fun q => h5p q.prim)), rfl⟩
          · have hT : T 122 [.val true (dfC false d)] [vB true] [none] := by
              have h := tx122 (d := d)
              rwa [bNt h3] at h
            repeat' ((conv => whnf); (first | (apply cx122; refine kl (hT) ?_) | refine k0 ?_ | refine jA fun _ => ?_ | refine jB fun _ => ?_ | refine kC (fun _ => ?_) fun _ => ?_ | (apply cx121; refine kl tx121 ?_) | (apply cx48; refine kl tx48 ?_) | (apply cx122; refine kl tx122 ?_) | (apply cx123; refine kl tx123 ?_) | refine jst ?_ | exact ⟨rfl, rfl⟩ | exact jV | fail))
            exact ⟨vI1 (cdN_3 h1 h2 (bNt h3)), rfl⟩
    · have hL : T 48 [aI d.cols.length, aI 1, aI 6] [vB false] [none, none, none] := by
        have h := tx48 (n := d.cols.length) (l := 1) (h := 6)
        rwa [bNt hl] at h
      repeat' ((conv => whnf); (first | (apply cx121; refine kl (hN) ?_) | (apply cx48; refine kl (hL) ?_) | refine k0 ?_ | refine jA fun _ => ?_ | refine jB fun _ => ?_ | refine kC (fun _ => ?_) fun _ => ?_ | (apply cx121; refine kl tx121 ?_) | (apply cx48; refine kl tx48 ?_) | (apply cx122; refine kl tx122 ?_) | (apply cx123; refine kl tx123 ?_) | refine jst ?_ | exact ⟨rfl, rfl⟩ | exact jV | fail))
      exact ⟨vI1 (cdN_2 h1 (bOf_n fun q => hl q.len)), rfl⟩
  · have hN : T 121 [.val true (dfC false d)] [vB false] [none] := by
      have h := tx121 (d := d)
      rwa [bNt h1] at h
    repeat' ((conv => whnf); (first | (apply cx121; refine kl (hN) ?_) | refine k0 ?_ | refine jA fun _ => ?_ | refine jB fun _ => ?_ | refine kC (fun _ => ?_) fun _ => ?_ | (apply cx121; refine kl tx121 ?_) | (apply cx48; refine kl tx48 ?_) | (apply cx122; refine kl tx122 ?_) | (apply cx123; refine kl tx123 ?_) | refine jst ?_ | exact ⟨rfl, rfl⟩ | exact jV | fail))
    exact ⟨vI1 (cdN_1 (bNt h1)), rfl⟩

theorem cx74 {P : Program} {X : FuncId → List Arg → List (Bool × List Cell) → List (Option (List Cell)) → Prop} {a : List Arg} {Q : List (Bool × List Cell) → List (Option (List Cell)) → Prop} (h : ∃ b vals outs, a = b ∧ D P X (.call 74 b vals outs) ∧ Q vals outs) : CallS P X 74 a Q := ⟨h⟩

set_option maxHeartbeats 2000000 in
set_option maxRecDepth 100000 in
theorem tx63 {d : Df} (hd : zDf d ≤ 2000000 := by first | assumption | omega | (simp; done) | (simp; omega)) : T 63 [.val true (dfC false d)] [vI (cdN d)] [none] := by
  refine w_call md [] Tryz.func63 rfl ?_
  obtain ⟨q1, q2, q3, q4, q5, q6⟩ := zDf_b hd
  by_cases h1 : nmsOk d = true
  · skip
    have hN : T 103 [.val true (dfC false d)] [vB true] [none] := by
      have h := tx103 (d := d)
      rwa [h1] at h
    by_cases h2 : typOk d = true
    · skip
      have hT : T 104 [.val true (dfC false d)] [vB true] [none] := by
        have h := tx104 (d := d)
        rwa [h2] at h
      by_cases h3 : oncOk d = true
      · skip
        have hO : T 105 [.val true (dfC false d)] [vB true] [none] := by
          have h := tx105 (d := d)
          rwa [h3] at h
        by_cases h4 : 2 < d.idx.length
        · repeat' ((conv => whnf); (first | (apply cx103; refine kl (hN) ?_) | (apply cx104; refine kl (hT) ?_) | (apply cx105; refine kl (hO) ?_) | refine k0 ?_ | refine jA fun _ => ?_ | refine jB fun _ => ?_ | refine kC (fun _ => ?_) fun _ => ?_ | (apply cx103; refine kl tx103 ?_) | (apply cx104; refine kl tx104 ?_) | (apply cx105; refine kl tx105 ?_) | (apply cx106; refine kl tx106 ?_) | refine jst ?_ | exact ⟨rfl, rfl⟩ | exact jV | fail))
          exact ⟨vI1 (cdN_6 h1 h2 h3 h4), rfl⟩
        · by_cases h5 : allOk d = true
          · skip
            have hA : T 106 [.val true (dfC false d)] [vB true] [none] := by
              have h := tx106 (d := d)
              rwa [h5] at h
            have h5i := (bOf_t h5).idx
            have h5p := (bOf_t h5).prim
            repeat' ((conv => whnf); (first | (apply cx103; refine kl (hN) ?_) | (apply cx104; refine kl (hT) ?_) | (apply cx105; refine kl (hO) ?_) | (apply cx106; refine kl (hA) ?_) | refine k0 ?_ | refine jA fun _ => ?_ | refine jB fun _ => ?_ | refine kC (fun _ => ?_) fun _ => ?_ | (apply cx103; refine kl tx103 ?_) | (apply cx104; refine kl tx104 ?_) | (apply cx105; refine kl tx105 ?_) | (apply cx106; refine kl tx106 ?_) | refine jst ?_ | exact ⟨rfl, rfl⟩ | exact jV | fail))
            have hP := bOf_t h5p
            have hpc : ∀ i (h : i < d.prim.length), 0 ≤ d.prim[i].col ∧ d.prim[i].col.toNat < d.cols.length := fun i h => by
              have := inB_iff.1 (hP.prt i h).1
              omega
            conv => whnf
            refine loopk (ι := Nat) (fun i => i ≤ d.prim.length ∧ ∀ j (h : j < d.prim.length), j < i → ¬ nulI d j h) (fun i => d.prim.length - i) (0) [1] (fun i => [(3, .v false [i6 i])]) [none, none] ?_
            refine ⟨⟨by omega, by intros; omega⟩, ?_, fun a ha => ?_⟩
            · exact jw []
            · repeat' ((conv => whnf); (first | refine k0 ?_ | (apply cx103; refine kl tx103 ?_) | (apply cx104; refine kl tx104 ?_) | (apply cx105; refine kl tx105 ?_) | (apply cx106; refine kl tx106 ?_) | refine jst ?_ | exact ⟨rfl, rfl⟩ | exact jV | fail))
              conv => whnf
              refine ⟨fun hlt => ?_, fun hge => ?_⟩
              · have ha2 : a < d.prim.length := by omega
                obtain ⟨hp1, hp2⟩ := hpc a ha2
                repeat' ((conv => whnf); (first | refine And.intro ⟨by omega, by omega⟩ (Exists.intro _ (And.intro (rdI (i := d.prim[a].col.toNat) (by omega) (by omega)) ?_)) | refine k0 ?_ | refine jA fun _ => ?_ | refine jB fun _ => ?_ | refine kC (fun _ => ?_) fun _ => ?_ | (apply cx103; refine kl tx103 ?_) | (apply cx104; refine kl tx104 ?_) | (apply cx105; refine kl tx105 ?_) | (apply cx106; refine kl tx106 ?_) | refine jst ?_ | exact ⟨rfl, rfl⟩ | exact jV | fail))
                cases hv : d.cols[d.prim[a].col.toNat].null
                · repeat' ((conv => whnf); (first | refine k0 ?_ | refine jA fun _ => ?_ | refine jB fun _ => ?_ | refine kC (fun _ => ?_) fun _ => ?_ | (apply cx103; refine kl tx103 ?_) | (apply cx104; refine kl tx104 ?_) | (apply cx105; refine kl tx105 ?_) | (apply cx106; refine kl tx106 ?_) | refine jst ?_ | exact ⟨rfl, rfl⟩ | exact jV | fail))
                  refine ⟨⟨a + 1, by omega, all_suc ha.2 ha2 (fun q => by
                    obtain ⟨_, q⟩ := q
                    exact bft hv q)⟩, by simp only; omega, ?_⟩
                  exact jw []
                · repeat' ((conv => whnf); (first | refine k0 ?_ | refine jA fun _ => ?_ | refine jB fun _ => ?_ | refine kC (fun _ => ?_) fun _ => ?_ | (apply cx103; refine kl tx103 ?_) | (apply cx104; refine kl tx104 ?_) | (apply cx105; refine kl tx105 ?_) | (apply cx106; refine kl tx106 ?_) | refine jst ?_ | exact ⟨rfl, rfl⟩ | exact jV | fail))
                  exact ⟨vI1 (cdN_4 h1 h2 h3 h4 (bOf_y ⟨h5i, h5p⟩) ⟨a, ha2, hp2, hv⟩), rfl⟩
              · obtain rfl : a = d.prim.length := by omega
                repeat' ((conv => whnf); (first | refine k0 ?_ | refine jA fun _ => ?_ | refine jB fun _ => ?_ | refine kC (fun _ => ?_) fun _ => ?_ | (apply cx103; refine kl tx103 ?_) | (apply cx104; refine kl tx104 ?_) | (apply cx105; refine kl tx105 ?_) | (apply cx106; refine kl tx106 ?_) | refine jst ?_ | exact ⟨rfl, rfl⟩ | exact jV | fail))
                exact ⟨vI1 (cdN_0 h1 h2 h3 h4 (bOf_y ⟨h5i, h5p⟩) (fun q => by
                  obtain ⟨i, hi, q⟩ := q
                  exact ha.2 i hi hi q)), rfl⟩
          · skip
            have hA : T 106 [.val true (dfC false d)] [vB false] [none] := by
              have h := tx106 (d := d)
              rwa [bNt h5] at h
            repeat' ((conv => whnf); (first | (apply cx103; refine kl (hN) ?_) | (apply cx104; refine kl (hT) ?_) | (apply cx105; refine kl (hO) ?_) | (apply cx106; refine kl (hA) ?_) | refine k0 ?_ | refine jA fun _ => ?_ | refine jB fun _ => ?_ | refine kC (fun _ => ?_) fun _ => ?_ | (apply cx103; refine kl tx103 ?_) | (apply cx104; refine kl tx104 ?_) | (apply cx105; refine kl tx105 ?_) | (apply cx106; refine kl tx106 ?_) | refine jst ?_ | exact ⟨rfl, rfl⟩ | exact jV | fail))
            exact ⟨vI1 (cdN_5 h1 h2 h3 h4 (bNt h5)), rfl⟩
      · skip
        have hO : T 105 [.val true (dfC false d)] [vB false] [none] := by
          have h := tx105 (d := d)
          rwa [bNt h3] at h
        repeat' ((conv => whnf); (first | (apply cx103; refine kl (hN) ?_) | (apply cx104; refine kl (hT) ?_) | (apply cx105; refine kl (hO) ?_) | refine k0 ?_ | refine jA fun _ => ?_ | refine jB fun _ => ?_ | refine kC (fun _ => ?_) fun _ => ?_ | (apply cx103; refine kl tx103 ?_) | (apply cx104; refine kl tx104 ?_) | (apply cx105; refine kl tx105 ?_) | (apply cx106; refine kl tx106 ?_) | refine jst ?_ | exact ⟨rfl, rfl⟩ | exact jV | fail))
        exact ⟨vI1 (cdN_3 h1 h2 (bNt h3)), rfl⟩
    · skip
      have hT : T 104 [.val true (dfC false d)] [vB false] [none] := by
        have h := tx104 (d := d)
        rwa [bNt h2] at h
      repeat' ((conv => whnf); (first | (apply cx103; refine kl (hN) ?_) | (apply cx104; refine kl (hT) ?_) | refine k0 ?_ | refine jA fun _ => ?_ | refine jB fun _ => ?_ | refine kC (fun _ => ?_) fun _ => ?_ | (apply cx103; refine kl tx103 ?_) | (apply cx104; refine kl tx104 ?_) | (apply cx105; refine kl tx105 ?_) | (apply cx106; refine kl tx106 ?_) | refine jst ?_ | exact ⟨rfl, rfl⟩ | exact jV | fail))
      exact ⟨vI1 (cdN_2 h1 (bNt h2)), rfl⟩
  · skip
    have hN : T 103 [.val true (dfC false d)] [vB false] [none] := by
      have h := tx103 (d := d)
      rwa [bNt h1] at h
    repeat' ((conv => whnf); (first | (apply cx103; refine kl (hN) ?_) | refine k0 ?_ | refine jA fun _ => ?_ | refine jB fun _ => ?_ | refine kC (fun _ => ?_) fun _ => ?_ | (apply cx103; refine kl tx103 ?_) | (apply cx104; refine kl tx104 ?_) | (apply cx105; refine kl tx105 ?_) | (apply cx106; refine kl tx106 ?_) | refine jst ?_ | exact ⟨rfl, rfl⟩ | exact jV | fail))
    exact ⟨vI1 (cdN_1 (bNt h1)), rfl⟩

theorem cx63 {P : Program} {X : FuncId → List Arg → List (Bool × List Cell) → List (Option (List Cell)) → Prop} {a : List Arg} {Q : List (Bool × List Cell) → List (Option (List Cell)) → Prop} (h : ∃ b vals outs, a = b ∧ D P X (.call 63 b vals outs) ∧ Q vals outs) : CallS P X 63 a Q := ⟨h⟩

end Go.Proofs.YtopnaijeicknoaaGreatDoor
