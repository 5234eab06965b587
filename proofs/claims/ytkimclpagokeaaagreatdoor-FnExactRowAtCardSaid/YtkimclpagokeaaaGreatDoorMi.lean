/- Functions of the program, each with what it gives back. -/
import Derived.Test.YtkimclpagokeaaaGreatDoorKe
import Derived.Test.YtkimclpagokeaaaGreatDoorChecked
import Derived.IntWalk
import Derived.Test.YtkimclpagokeaaaGreatDoorMh
namespace Go.Proofs.YtkimclpagokeaaaGreatDoor
open Go Go.RowKit Go.IntWalk
open Enc (sz cs)
attribute [local irreducible] IntKind.wrap

attribute [local irreducible] frOk nmOk nmsOk bOf fstI
theorem bNt {b : Bool} (h : ¬ b = true) : b = false := by cases b with | true => exact absurd rfl h | false => rfl
theorem vI1 {b : Int} {a : Int} (h : b = a) : [(false, [Cell.prim (Value.int .i64 a)])] = [vI b] := by rw [h]

set_option maxHeartbeats 2000000 in
set_option maxRecDepth 100000 in
theorem tx73 {d : Df} (hd : zDf d ≤ 2000000 := by first | assumption | omega | (simp; done) | (simp; omega)) : T 73 [.val true (dfC false d)] [vI (cdN d)] [none] := by
  refine w_call md [] Tryz.func73 rfl ?_
  obtain ⟨q1, q2, q3, q4, q5, q6⟩ := zDf_b hd
  by_cases h1 : nmsOk d = true
  · have hN : T 83 [.val true (dfC false d)] [vB true] [none] := by
      have h := tx83 (d := d)
      rwa [h1] at h
    by_cases hl : inB (d.cols.length : Int) 1 6 = true
    · have hL : T 51 [aI d.cols.length, aI 1, aI 6] [vB true] [none, none, none] := by
        have h := tx51 (n := d.cols.length) (l := 1) (h := 6)
        rwa [hl] at h
      repeat' ((conv => whnf); (first | (apply cx83; refine kl (hN) ?_) | (apply cx51; refine kl (hL) ?_) | refine k0 ?_ | refine jA fun _ => ?_ | refine jB fun _ => ?_ | refine kC (fun _ => ?_) fun _ => ?_ | refine jS ?_ | refine jI ?_ | (apply cx83; refine kl tx83 ?_) | (apply cx51; refine kl tx51 ?_) | (apply cx84; refine kl tx84 ?_) | (apply cx85; refine kl tx85 ?_) | refine jD ?_ | refine ⟨snc, _, snr, ?_⟩ | refine ⟨⟨Nat.le_refl _, rfl⟩, [], rfl, ?_⟩ | refine And.intro ⟨rfl, rfl, by decide, rfl⟩ ?_ | refine jP ?_ | refine jO ?_ | refine jX ?_ | refine jb jr ?_ | refine jb ofs ?_ | refine ko jc ?_ | refine ko jp ?_ | refine jM ?_ | refine kr ?_ | refine ko rfl ?_ | refine And.intro (cs_shal _) ?_ | refine And.intro (rfl : List.all _ _ = true) ?_ | refine And.intro ⟨rfl, (rfl : List.all _ _ = true)⟩ ?_ | exact ⟨rfl, rfl⟩ | exact jV | fail))
      conv => whnf
      refine loopk (ι := Nat) (fun i => i ≤ d.cols.length ∧ ∀ j (h : j < d.cols.length), j < i → inB d.cols[j].type 1 4 = true) (fun i => d.cols.length - i) (0) [1, 18, 19] (fun i => [(20, .v false [i6 i])]) [none, none] ?_
      refine ⟨⟨by omega, by intros; omega⟩, ?_, fun i hi => ?_⟩
      · exact jw []
      · repeat' ((conv => whnf); (first | refine k0 ?_ | refine jS ?_ | refine jI ?_ | (apply cx83; refine kl tx83 ?_) | (apply cx51; refine kl tx51 ?_) | (apply cx84; refine kl tx84 ?_) | (apply cx85; refine kl tx85 ?_) | refine jD ?_ | refine ⟨snc, _, snr, ?_⟩ | refine ⟨⟨Nat.le_refl _, rfl⟩, [], rfl, ?_⟩ | refine And.intro ⟨rfl, rfl, by decide, rfl⟩ ?_ | refine jP ?_ | refine jO ?_ | refine jX ?_ | refine jb jr ?_ | refine jb ofs ?_ | refine ko jc ?_ | refine ko jp ?_ | refine jM ?_ | refine kr ?_ | refine ko rfl ?_ | refine And.intro (cs_shal _) ?_ | refine And.intro (rfl : List.all _ _ = true) ?_ | refine And.intro ⟨rfl, (rfl : List.all _ _ = true)⟩ ?_ | exact ⟨rfl, rfl⟩ | exact jV | fail))
        conv => whnf
        refine ⟨fun hlt => ?_, fun hge => ?_⟩
        · have hi2 : i < d.cols.length := by omega
          repeat' ((conv => whnf); (first | refine k0 ?_ | refine jA fun _ => ?_ | refine jB fun _ => ?_ | refine kC (fun _ => ?_) fun _ => ?_ | refine jS ?_ | refine jI ?_ | (apply cx83; refine kl tx83 ?_) | (apply cx51; refine kl tx51 ?_) | (apply cx84; refine kl tx84 ?_) | (apply cx85; refine kl tx85 ?_) | refine jD ?_ | refine ⟨snc, _, snr, ?_⟩ | refine ⟨⟨Nat.le_refl _, rfl⟩, [], rfl, ?_⟩ | refine And.intro ⟨rfl, rfl, by decide, rfl⟩ ?_ | refine jP ?_ | refine jO ?_ | refine jX ?_ | refine jb jr ?_ | refine jb ofs ?_ | refine ko jc ?_ | refine ko jp ?_ | refine jM ?_ | refine kr ?_ | refine ko rfl ?_ | refine And.intro (cs_shal _) ?_ | refine And.intro (rfl : List.all _ _ = true) ?_ | refine And.intro ⟨rfl, (rfl : List.all _ _ = true)⟩ ?_ | exact ⟨rfl, rfl⟩ | exact jV | fail))
          · refine ⟨⟨i + 1, by omega, all_suc hi.2 hi2 ‹inB d.cols[i].type 1 4 = true›⟩, by simp only; omega, ?_⟩
            exact jw []
          · exact ⟨vI1 (cdN_2 h1 (bOf_n fun q => bft ‹inB d.cols[i].type 1 4 = false› (q.type i hi2))), rfl⟩
        · obtain rfl : i = d.cols.length := by omega
          have h2 : typOk d = true := bOf_y ⟨hl, fun j h => hi.2 j h h⟩
          by_cases h3 : oncOk d = true
          · have hT : T 84 [.val true (dfC false d)] [vB false] [none] := by
              have h := tx84 (d := d)
              rwa [h3] at h
            by_cases h4 : 2 < d.idx.length
            · repeat' ((conv => whnf); (first | (apply cx84; refine kl (hT) ?_) | refine k0 ?_ | refine jA fun _ => ?_ | refine jB fun _ => ?_ | refine kC (fun _ => ?_) fun _ => ?_ | refine jS ?_ | refine jI ?_ | (apply cx83; refine kl tx83 ?_) | (apply cx51; refine kl tx51 ?_) | (apply cx84; refine kl tx84 ?_) | (apply cx85; refine kl tx85 ?_) | refine jD ?_ | refine ⟨snc, _, snr, ?_⟩ | refine ⟨⟨Nat.le_refl _, rfl⟩, [], rfl, ?_⟩ | refine And.intro ⟨rfl, rfl, by decide, rfl⟩ ?_ | refine jP ?_ | refine jO ?_ | refine jX ?_ | refine jb jr ?_ | refine jb ofs ?_ | refine ko jc ?_ | refine ko jp ?_ | refine jM ?_ | refine kr ?_ | refine ko rfl ?_ | refine And.intro (cs_shal _) ?_ | refine And.intro (rfl : List.all _ _ = true) ?_ | refine And.intro ⟨rfl, (rfl : List.all _ _ = true)⟩ ?_ | exact ⟨rfl, rfl⟩ | exact jV | fail))
              exact ⟨vI1 (cdN_6 h1 h2 h3 h4), rfl⟩
            · repeat' ((conv => whnf); (first | (apply cx84; refine kl (hT) ?_) | refine k0 ?_ | refine jA fun _ => ?_ | refine jB fun _ => ?_ | refine kC (fun _ => ?_) fun _ => ?_ | refine jS ?_ | refine jI ?_ | (apply cx83; refine kl tx83 ?_) | (apply cx51; refine kl tx51 ?_) | (apply cx84; refine kl tx84 ?_) | (apply cx85; refine kl tx85 ?_) | refine jD ?_ | refine ⟨snc, _, snr, ?_⟩ | refine ⟨⟨Nat.le_refl _, rfl⟩, [], rfl, ?_⟩ | refine And.intro ⟨rfl, rfl, by decide, rfl⟩ ?_ | refine jP ?_ | refine jO ?_ | refine jX ?_ | refine jb jr ?_ | refine jb ofs ?_ | refine ko jc ?_ | refine ko jp ?_ | refine jM ?_ | refine kr ?_ | refine ko rfl ?_ | refine And.intro (cs_shal _) ?_ | refine And.intro (rfl : List.all _ _ = true) ?_ | refine And.intro ⟨rfl, (rfl : List.all _ _ = true)⟩ ?_ | exact ⟨rfl, rfl⟩ | exact jV | fail))
              conv => whnf
              refine loopk (ι := Nat) (fun i => i ≤ d.idx.length ∧ ∀ j (h : j < d.idx.length), j < i → prtOk d.cols.length d.idx[j].parts = true) (fun i => d.idx.length - i) (0) [1, 36, 37] (fun i => [(38, .v false [i6 i])]) [none, none] ?_
              refine ⟨⟨by omega, by intros; omega⟩, ?_, fun i hi => ?_⟩
              · exact jw []
              · repeat' ((conv => whnf); (first | refine k0 ?_ | refine jS ?_ | refine jI ?_ | (apply cx83; refine kl tx83 ?_) | (apply cx51; refine kl tx51 ?_) | (apply cx84; refine kl tx84 ?_) | (apply cx85; refine kl tx85 ?_) | refine jD ?_ | refine ⟨snc, _, snr, ?_⟩ | refine ⟨⟨Nat.le_refl _, rfl⟩, [], rfl, ?_⟩ | refine And.intro ⟨rfl, rfl, by decide, rfl⟩ ?_ | refine jP ?_ | refine jO ?_ | refine jX ?_ | refine jb jr ?_ | refine jb ofs ?_ | refine ko jc ?_ | refine ko jp ?_ | refine jM ?_ | refine kr ?_ | refine ko rfl ?_ | refine And.intro (cs_shal _) ?_ | refine And.intro (rfl : List.all _ _ = true) ?_ | refine And.intro ⟨rfl, (rfl : List.all _ _ = true)⟩ ?_ | exact ⟨rfl, rfl⟩ | exact jV | fail))
                conv => whnf
                refine ⟨fun hlt => ?_, fun hge => ?_⟩
                · have hi2 : i < d.idx.length := by omega
                  have hb := (q6 i hi2).2
                  repeat' ((conv => whnf); (first | (apply cx85; refine kl (tx85 (d := d) (l := d.idx[i].parts)) ?_) | refine k0 ?_ | refine jA fun _ => ?_ | refine jB fun _ => ?_ | refine kC (fun _ => ?_) fun _ => ?_ | refine jS ?_ | refine jI ?_ | (apply cx83; refine kl tx83 ?_) | (apply cx51; refine kl tx51 ?_) | (apply cx84; refine kl tx84 ?_) | (apply cx85; refine kl tx85 ?_) | refine jD ?_ | refine ⟨snc, _, snr, ?_⟩ | refine ⟨⟨Nat.le_refl _, rfl⟩, [], rfl, ?_⟩ | refine And.intro ⟨rfl, rfl, by decide, rfl⟩ ?_ | refine jP ?_ | refine jO ?_ | refine jX ?_ | refine jb jr ?_ | refine jb ofs ?_ | refine ko jc ?_ | refine ko jp ?_ | refine jM ?_ | refine kr ?_ | refine ko rfl ?_ | refine And.intro (cs_shal _) ?_ | refine And.intro (rfl : List.all _ _ = true) ?_ | refine And.intro ⟨rfl, (rfl : List.all _ _ = true)⟩ ?_ | exact ⟨rfl, rfl⟩ | exact jV | fail))
                  · refine ⟨⟨i + 1, by omega, all_suc hi.2 hi2 ‹prtOk _ _ = true›⟩, by simp only; omega, ?_⟩
                    exact jw []
                  · exact ⟨vI1 (cdN_5 h1 h2 h3 h4 (bOf_n fun q => bft ‹prtOk _ _ = false› (q.idx i hi2))), rfl⟩
                · obtain rfl : i = d.idx.length := by omega
                  have h5i : ∀ j (h : j < d.idx.length), prtOk d.cols.length d.idx[j].parts = true := fun j h => hi.2 j h h
                  by_cases h5p : prtOk d.cols.length d.prim = true
                  · have hpP : T 85 [.val true (dfC false d), aE d.prim] [vB true] [none, none] := by
                      have h := tx85 (d := d) (l := d.prim)
                      rwa [h5p] at h
                    repeat' ((conv => whnf); (first | (apply cx85; refine kl (hpP) ?_) | refine k0 ?_ | refine jA fun _ => ?_ | refine jB fun _ => ?_ | refine kC (fun _ => ?_) fun _ => ?_ | refine jS ?_ | refine jI ?_ | (apply cx83; refine kl tx83 ?_) | (apply cx51; refine kl tx51 ?_) | (apply cx84; refine kl tx84 ?_) | (apply cx85; refine kl tx85 ?_) | refine jD ?_ | refine ⟨snc, _, snr, ?_⟩ | refine ⟨⟨Nat.le_refl _, rfl⟩, [], rfl, ?_⟩ | refine And.intro ⟨rfl, rfl, by decide, rfl⟩ ?_ | refine jP ?_ | refine jO ?_ | refine jX ?_ | refine jb jr ?_ | refine jb ofs ?_ | refine ko jc ?_ | refine ko jp ?_ | refine jM ?_ | refine kr ?_ | refine ko rfl ?_ | refine And.intro (cs_shal _) ?_ | refine And.intro (rfl : List.all _ _ = true) ?_ | refine And.intro ⟨rfl, (rfl : List.all _ _ = true)⟩ ?_ | exact ⟨rfl, rfl⟩ | exact jV | fail))
                    have hP := bOf_t h5p
                    have hpc : ∀ i (h : i < d.prim.length), 0 ≤ d.prim[i].col ∧ d.prim[i].col.toNat < d.cols.length := fun i h => by
                      have := inB_iff.1 (hP.prt i h).1
                      omega
                    conv => whnf
                    refine loopk (ι := Nat) (fun i => i ≤ d.prim.length ∧ ∀ j (h : j < d.prim.length), j < i → ¬ nulI d j h) (fun i => d.prim.length - i) (0) [1, 54, 55] (fun i => [(56, .v false [i6 i])]) [none, none] ?_
                    refine ⟨⟨by omega, by intros; omega⟩, ?_, fun a ha => ?_⟩
                    · exact jw []
                    · repeat' ((conv => whnf); (first | refine k0 ?_ | refine jS ?_ | refine jI ?_ | (apply cx83; refine kl tx83 ?_) | (apply cx51; refine kl tx51 ?_) | (apply cx84; refine kl tx84 ?_) | (apply cx85; refine kl tx85 ?_) | refine jD ?_ | refine ⟨snc, _, snr, ?_⟩ | refine ⟨⟨Nat.le_refl _, rfl⟩, [], rfl, ?_⟩ | refine And.intro ⟨rfl, rfl, by decide, rfl⟩ ?_ | refine jP ?_ | refine jO ?_ | refine jX ?_ | refine jb jr ?_ | refine jb ofs ?_ | refine ko jc ?_ | refine ko jp ?_ | refine jM ?_ | refine kr ?_ | refine ko rfl ?_ | refine And.intro (cs_shal _) ?_ | refine And.intro (rfl : List.all _ _ = true) ?_ | refine And.intro ⟨rfl, (rfl : List.all _ _ = true)⟩ ?_ | exact ⟨rfl, rfl⟩ | exact jV | fail))
                      conv => whnf
                      refine ⟨fun hlt => ?_, fun hge => ?_⟩
                      · have ha2 : a < d.prim.length := by omega
                        obtain ⟨hp1, hp2⟩ := hpc a ha2
                        repeat' ((conv => whnf); (first | refine And.intro ⟨by omega, by omega⟩ (Exists.intro _ (And.intro (rdI (i := d.prim[a].col.toNat) (by omega) (by omega)) ?_)) | refine k0 ?_ | refine jA fun _ => ?_ | refine jB fun _ => ?_ | refine kC (fun _ => ?_) fun _ => ?_ | refine jS ?_ | refine jI ?_ | (apply cx83; refine kl tx83 ?_) | (apply cx51; refine kl tx51 ?_) | (apply cx84; refine kl tx84 ?_) | (apply cx85; refine kl tx85 ?_) | refine jD ?_ | refine ⟨snc, _, snr, ?_⟩ | refine ⟨⟨Nat.le_refl _, rfl⟩, [], rfl, ?_⟩ | refine And.intro ⟨rfl, rfl, by decide, rfl⟩ ?_ | refine jP ?_ | refine jO ?_ | refine jX ?_ | refine jb jr ?_ | refine jb ofs ?_ | refine ko jc ?_ | refine ko jp ?_ | refine jM ?_ | refine kr ?_ | refine ko rfl ?_ | refine And.intro (cs_shal _) ?_ | refine And.intro (rfl : List.all _ _ = true) ?_ | refine And.intro ⟨rfl, (rfl : List.all _ _ = true)⟩ ?_ | exact ⟨rfl, rfl⟩ | exact jV | fail))
                        cases hv : d.cols[d.prim[a].col.toNat].null
                        · repeat' ((conv => whnf); (first | refine k0 ?_ | refine jA fun _ => ?_ | refine jB fun _ => ?_ | refine kC (fun _ => ?_) fun _ => ?_ | refine jS ?_ | refine jI ?_ | (apply cx83; refine kl tx83 ?_) | (apply cx51; refine kl tx51 ?_) | (apply cx84; refine kl tx84 ?_) | (apply cx85; refine kl tx85 ?_) | refine jD ?_ | refine ⟨snc, _, snr, ?_⟩ | refine ⟨⟨Nat.le_refl _, rfl⟩, [], rfl, ?_⟩ | refine And.intro ⟨rfl, rfl, by decide, rfl⟩ ?_ | refine jP ?_ | refine jO ?_ | refine jX ?_ | refine jb jr ?_ | refine jb ofs ?_ | refine ko jc ?_ | refine ko jp ?_ | refine jM ?_ | refine kr ?_ | refine ko rfl ?_ | refine And.intro (cs_shal _) ?_ | refine And.intro (rfl : List.all _ _ = true) ?_ | refine And.intro ⟨rfl, (rfl : List.all _ _ = true)⟩ ?_ | exact ⟨rfl, rfl⟩ | exact jV | fail))
                          refine ⟨⟨a + 1, by omega, all_suc ha.2 ha2 (fun q => by
                            obtain ⟨_, q⟩ := q
                            exact bft hv q)⟩, by simp only; omega, ?_⟩
                          exact jw []
                        · repeat' ((conv => whnf); (first | refine k0 ?_ | refine jA fun _ => ?_ | refine jB fun _ => ?_ | refine kC (fun _ => ?_) fun _ => ?_ | refine jS ?_ | refine jI ?_ | (apply cx83; refine kl tx83 ?_) | (apply cx51; refine kl tx51 ?_) | (apply cx84; refine kl tx84 ?_) | (apply cx85; refine kl tx85 ?_) | refine jD ?_ | refine ⟨snc, _, snr, ?_⟩ | refine ⟨⟨Nat.le_refl _, rfl⟩, [], rfl, ?_⟩ | refine And.intro ⟨rfl, rfl, by decide, rfl⟩ ?_ | refine jP ?_ | refine jO ?_ | refine jX ?_ | refine jb jr ?_ | refine jb ofs ?_ | refine ko jc ?_ | refine ko jp ?_ | refine jM ?_ | refine kr ?_ | refine ko rfl ?_ | refine And.intro (cs_shal _) ?_ | refine And.intro (rfl : List.all _ _ = true) ?_ | refine And.intro ⟨rfl, (rfl : List.all _ _ = true)⟩ ?_ | exact ⟨rfl, rfl⟩ | exact jV | fail))
                          exact ⟨vI1 (cdN_4 h1 h2 h3 h4 (bOf_y ⟨h5i, h5p⟩) ⟨a, ha2, hp2, hv⟩), rfl⟩
                      · obtain rfl : a = d.prim.length := by omega
                        repeat' ((conv => whnf); (first | refine k0 ?_ | refine jA fun _ => ?_ | refine jB fun _ => ?_ | refine kC (fun _ => ?_) fun _ => ?_ | refine jS ?_ | refine jI ?_ | (apply cx83; refine kl tx83 ?_) | (apply cx51; refine kl tx51 ?_) | (apply cx84; refine kl tx84 ?_) | (apply cx85; refine kl tx85 ?_) | refine jD ?_ | refine ⟨snc, _, snr, ?_⟩ | refine ⟨⟨Nat.le_refl _, rfl⟩, [], rfl, ?_⟩ | refine And.intro ⟨rfl, rfl, by decide, rfl⟩ ?_ | refine jP ?_ | refine jO ?_ | refine jX ?_ | refine jb jr ?_ | refine jb ofs ?_ | refine ko jc ?_ | refine ko jp ?_ | refine jM ?_ | refine kr ?_ | refine ko rfl ?_ | refine And.intro (cs_shal _) ?_ | refine And.intro (rfl : List.all _ _ = true) ?_ | refine And.intro ⟨rfl, (rfl : List.all _ _ = true)⟩ ?_ | exact ⟨rfl, rfl⟩ | exact jV | fail))
                        exact ⟨vI1 (cdN_0 h1 h2 h3 h4 (bOf_y ⟨h5i, h5p⟩) (fun q => by
                          obtain ⟨i, hi, q⟩ := q
                          exact ha.2 i hi hi q)), rfl⟩
                  · have hpP : T 85 [.val true (dfC false d), aE d.prim] [vB false] [none, none] := by
                      have h := tx85 (d := d) (l := d.prim)
                      rwa [bNt h5p] at h
                    repeat' ((conv => whnf); (first | (apply cx85; refine kl (hpP) ?_) | refine k0 ?_ | refine jA fun _ => ?_ | refine jB fun _ => ?_ | refine kC (fun _ => ?_) fun _ => ?_ | refine jS ?_ | refine jI ?_ | (apply cx83; refine kl tx83 ?_) | (apply cx51; refine kl tx51 ?_) | (apply cx84; refine kl tx84 ?_) | (apply cx85; refine kl tx85 ?_) | refine jD ?_ | refine ⟨snc, _, snr, ?_⟩ | refine ⟨⟨Nat.le_refl _, rfl⟩, [], rfl, ?_⟩ | refine And.intro ⟨rfl, rfl, by decide, rfl⟩ ?_ | refine jP ?_ | refine jO ?_ | refine jX ?_ | refine jb jr ?_ | refine jb ofs ?_ | refine ko jc ?_ | refine ko jp ?_ | refine jM ?_ | refine kr ?_ | refine ko rfl ?_ | refine And.intro (cs_shal _) ?_ | refine And.intro (rfl : List.all _ _ = true) ?_ | refine And.intro ⟨rfl, (rfl : List.all _ _ = true)⟩ ?_ | exact ⟨rfl, rfl⟩ | exact jV | fail))
                    exact ⟨vI1 (cdN_5 h1 h2 h3 h4 (bOf_n fun q => h5p q.prim)), rfl⟩
          · have hT : T 84 [.val true (dfC false d)] [vB true] [none] := by
              have h := tx84 (d := d)
              rwa [bNt h3] at h
            repeat' ((conv => whnf); (first | (apply cx84; refine kl (hT) ?_) | refine k0 ?_ | refine jA fun _ => ?_ | refine jB fun _ => ?_ | refine kC (fun _ => ?_) fun _ => ?_ | refine jS ?_ | refine jI ?_ | (apply cx83; refine kl tx83 ?_) | (apply cx51; refine kl tx51 ?_) | (apply cx84; refine kl tx84 ?_) | (apply cx85; refine kl tx85 ?_) | refine jD ?_ | refine ⟨snc, _, snr, ?_⟩ | refine ⟨⟨Nat.le_refl _, rfl⟩, [], rfl, ?_⟩ | refine And.intro ⟨rfl, rfl, by decide, rfl⟩ ?_ | refine jP ?_ | refine jO ?_ | refine jX ?_ | refine jb jr ?_ | refine jb ofs ?_ | refine ko jc ?_ | refine ko jp ?_ | refine jM ?_ | refine kr ?_ | refine ko rfl ?_ | refine And.intro (cs_shal _) ?_ | refine And.intro (rfl : List.all _ _ = true) ?_ | refine And.intro ⟨rfl, (rfl : List.all _ _ = true)⟩ ?_ | exact ⟨rfl, rfl⟩ | exact jV | fail))
            exact ⟨vI1 (cdN_3 h1 h2 (bNt h3)), rfl⟩
    · have hL : T 51 [aI d.cols.length, aI 1, aI 6] [vB false] [none, none, none] := by
        have h := tx51 (n := d.cols.length) (l := 1) (h := 6)
        rwa [bNt hl] at h
      repeat' ((conv => whnf); (first | (apply cx83; refine kl (hN) ?_) | (apply cx51; refine kl (hL) ?_) | refine k0 ?_ | refine jA fun _ => ?_ | refine jB fun _ => ?_ | refine kC (fun _ => ?_) fun _ => ?_ | refine jS ?_ | refine jI ?_ | (apply cx83; refine kl tx83 ?_) | (apply cx51; refine kl tx51 ?_) | (apply cx84; refine kl tx84 ?_) | (apply cx85; refine kl tx85 ?_) | refine jD ?_ | refine ⟨snc, _, snr, ?_⟩ | refine ⟨⟨Nat.le_refl _, rfl⟩, [], rfl, ?_⟩ | refine And.intro ⟨rfl, rfl, by decide, rfl⟩ ?_ | refine jP ?_ | refine jO ?_ | refine jX ?_ | refine jb jr ?_ | refine jb ofs ?_ | refine ko jc ?_ | refine ko jp ?_ | refine jM ?_ | refine kr ?_ | refine ko rfl ?_ | refine And.intro (cs_shal _) ?_ | refine And.intro (rfl : List.all _ _ = true) ?_ | refine And.intro ⟨rfl, (rfl : List.all _ _ = true)⟩ ?_ | exact ⟨rfl, rfl⟩ | exact jV | fail))
      exact ⟨vI1 (cdN_2 h1 (bOf_n fun q => hl q.len)), rfl⟩
  · have hN : T 83 [.val true (dfC false d)] [vB false] [none] := by
      have h := tx83 (d := d)
      rwa [bNt h1] at h
    repeat' ((conv => whnf); (first | (apply cx83; refine kl (hN) ?_) | refine k0 ?_ | refine jA fun _ => ?_ | refine jB fun _ => ?_ | refine kC (fun _ => ?_) fun _ => ?_ | refine jS ?_ | refine jI ?_ | (apply cx83; refine kl tx83 ?_) | (apply cx51; refine kl tx51 ?_) | (apply cx84; refine kl tx84 ?_) | (apply cx85; refine kl tx85 ?_) | refine jD ?_ | refine ⟨snc, _, snr, ?_⟩ | refine ⟨⟨Nat.le_refl _, rfl⟩, [], rfl, ?_⟩ | refine And.intro ⟨rfl, rfl, by decide, rfl⟩ ?_ | refine jP ?_ | refine jO ?_ | refine jX ?_ | refine jb jr ?_ | refine jb ofs ?_ | refine ko jc ?_ | refine ko jp ?_ | refine jM ?_ | refine kr ?_ | refine ko rfl ?_ | refine And.intro (cs_shal _) ?_ | refine And.intro (rfl : List.all _ _ = true) ?_ | refine And.intro ⟨rfl, (rfl : List.all _ _ = true)⟩ ?_ | exact ⟨rfl, rfl⟩ | exact jV | fail))
    exact ⟨vI1 (cdN_1 (bNt h1)), rfl⟩

theorem cx73 {P : Program} {X : FuncId → List Arg → List (Bool × List Cell) → List (Option (List Cell)) → Prop} {a : List Arg} {Q : List (Bool × List Cell) → List (Option (List Cell)) → Prop} (h : ∃ b vals outs, a = b ∧ D P X (.call 73 b vals outs) ∧ Q vals outs) : CallS P X 73 a Q := ⟨h⟩

set_option maxHeartbeats 2000000 in
set_option maxRecDepth 100000 in
theorem tx43 {d : Df} (hd : zDf d ≤ 2000000 := by first | assumption | omega | (simp; done) | (simp; omega)) : T 43 [.val true (dfC false d)] [vI (cdN d)] [none] := by
  refine w_call md [] Tryz.func43 rfl ?_
  obtain ⟨q1, q2, q3, q4, q5, q6⟩ := zDf_b hd
  by_cases h1 : nmsOk d = true
  · skip
    have hN : T 63 [.val true (dfC false d)] [vB true] [none] := by
      have h := tx63 (d := d)
      rwa [h1] at h
    by_cases h2 : typOk d = true
    · skip
      have hT : T 64 [.val true (dfC false d)] [vB true] [none] := by
        have h := tx64 (d := d)
        rwa [h2] at h
      by_cases h3 : oncOk d = true
      · skip
        have hO : T 65 [.val true (dfC false d)] [vB true] [none] := by
          have h := tx65 (d := d)
          rwa [h3] at h
        by_cases h4 : 2 < d.idx.length
        · repeat' ((conv => whnf); (first | (apply cx63; refine kl (hN) ?_) | (apply cx64; refine kl (hT) ?_) | (apply cx65; refine kl (hO) ?_) | refine k0 ?_ | refine jA fun _ => ?_ | refine jB fun _ => ?_ | refine kC (fun _ => ?_) fun _ => ?_ | refine jS ?_ | refine jI ?_ | (apply cx63; refine kl tx63 ?_) | (apply cx64; refine kl tx64 ?_) | (apply cx65; refine kl tx65 ?_) | (apply cx66; refine kl tx66 ?_) | refine jD ?_ | refine ⟨snc, _, snr, ?_⟩ | refine ⟨⟨Nat.le_refl _, rfl⟩, [], rfl, ?_⟩ | refine And.intro ⟨rfl, rfl, by decide, rfl⟩ ?_ | refine jP ?_ | refine jO ?_ | refine jX ?_ | refine jb jr ?_ | refine jb ofs ?_ | refine ko jc ?_ | refine ko jp ?_ | refine jM ?_ | refine kr ?_ | refine ko rfl ?_ | refine And.intro (cs_shal _) ?_ | refine And.intro (rfl : List.all _ _ = true) ?_ | refine And.intro ⟨rfl, (rfl : List.all _ _ = true)⟩ ?_ | exact ⟨rfl, rfl⟩ | exact jV | fail))
          exact ⟨vI1 (cdN_6 h1 h2 h3 h4), rfl⟩
        · by_cases h5 : allOk d = true
          · skip
            have hA : T 66 [.val true (dfC false d)] [vB true] [none] := by
              have h := tx66 (d := d)
              rwa [h5] at h
            have h5i := (bOf_t h5).idx
            have h5p := (bOf_t h5).prim
            repeat' ((conv => whnf); (first | (apply cx63; refine kl (hN) ?_) | (apply cx64; refine kl (hT) ?_) | (apply cx65; refine kl (hO) ?_) | (apply cx66; refine kl (hA) ?_) | refine k0 ?_ | refine jA fun _ => ?_ | refine jB fun _ => ?_ | refine kC (fun _ => ?_) fun _ => ?_ | refine jS ?_ | refine jI ?_ | (apply cx63; refine kl tx63 ?_) | (apply cx64; refine kl tx64 ?_) | (apply cx65; refine kl tx65 ?_) | (apply cx66; refine kl tx66 ?_) | refine jD ?_ | refine ⟨snc, _, snr, ?_⟩ | refine ⟨⟨Nat.le_refl _, rfl⟩, [], rfl, ?_⟩ | refine And.intro ⟨rfl, rfl, by decide, rfl⟩ ?_ | refine jP ?_ | refine jO ?_ | refine jX ?_ | refine jb jr ?_ | refine jb ofs ?_ | refine ko jc ?_ | refine ko jp ?_ | refine jM ?_ | refine kr ?_ | refine ko rfl ?_ | refine And.intro (cs_shal _) ?_ | refine And.intro (rfl : List.all _ _ = true) ?_ | refine And.intro ⟨rfl, (rfl : List.all _ _ = true)⟩ ?_ | exact ⟨rfl, rfl⟩ | exact jV | fail))
            have hP := bOf_t h5p
            have hpc : ∀ i (h : i < d.prim.length), 0 ≤ d.prim[i].col ∧ d.prim[i].col.toNat < d.cols.length := fun i h => by
              have := inB_iff.1 (hP.prt i h).1
              omega
            conv => whnf
            refine loopk (ι := Nat) (fun i => i ≤ d.prim.length ∧ ∀ j (h : j < d.prim.length), j < i → ¬ nulI d j h) (fun i => d.prim.length - i) (0) [1] (fun i => [(3, .v false [i6 i])]) [none, none] ?_
            refine ⟨⟨by omega, by intros; omega⟩, ?_, fun a ha => ?_⟩
            · exact jw []
            · repeat' ((conv => whnf); (first | refine k0 ?_ | refine jS ?_ | refine jI ?_ | (apply cx63; refine kl tx63 ?_) | (apply cx64; refine kl tx64 ?_) | (apply cx65; refine kl tx65 ?_) | (apply cx66; refine kl tx66 ?_) | refine jD ?_ | refine ⟨snc, _, snr, ?_⟩ | refine ⟨⟨Nat.le_refl _, rfl⟩, [], rfl, ?_⟩ | refine And.intro ⟨rfl, rfl, by decide, rfl⟩ ?_ | refine jP ?_ | refine jO ?_ | refine jX ?_ | refine jb jr ?_ | refine jb ofs ?_ | refine ko jc ?_ | refine ko jp ?_ | refine jM ?_ | refine kr ?_ | refine ko rfl ?_ | refine And.intro (cs_shal _) ?_ | refine And.intro (rfl : List.all _ _ = true) ?_ | refine And.intro ⟨rfl, (rfl : List.all _ _ = true)⟩ ?_ | exact ⟨rfl, rfl⟩ | exact jV | fail))
              conv => whnf
              refine ⟨fun hlt => ?_, fun hge => ?_⟩
              · have ha2 : a < d.prim.length := by omega
                obtain ⟨hp1, hp2⟩ := hpc a ha2
                repeat' ((conv => whnf); (first | refine And.intro ⟨by omega, by omega⟩ (Exists.intro _ (And.intro (rdI (i := d.prim[a].col.toNat) (by omega) (by omega)) ?_)) | refine k0 ?_ | refine jA fun _ => ?_ | refine jB fun _ => ?_ | refine kC (fun _ => ?_) fun _ => ?_ | refine jS ?_ | refine jI ?_ | (apply cx63; refine kl tx63 ?_) | (apply cx64; refine kl tx64 ?_) | (apply cx65; refine kl tx65 ?_) | (apply cx66; refine kl tx66 ?_) | refine jD ?_ | refine ⟨snc, _, snr, ?_⟩ | refine ⟨⟨Nat.le_refl _, rfl⟩, [], rfl, ?_⟩ | refine And.intro ⟨rfl, rfl, by decide, rfl⟩ ?_ | refine jP ?_ | refine jO ?_ | refine jX ?_ | refine jb jr ?_ | refine jb ofs ?_ | refine ko jc ?_ | refine ko jp ?_ | refine jM ?_ | refine kr ?_ | refine ko rfl ?_ | refine And.intro (cs_shal _) ?_ | refine And.intro (rfl : List.all _ _ = true) ?_ | refine And.intro ⟨rfl, (rfl : List.all _ _ = true)⟩ ?_ | exact ⟨rfl, rfl⟩ | exact jV | fail))
                cases hv : d.cols[d.prim[a].col.toNat].null
                · repeat' ((conv => whnf); (first | refine k0 ?_ | refine jA fun _ => ?_ | refine jB fun _ => ?_ | refine kC (fun _ => ?_) fun _ => ?_ | refine jS ?_ | refine jI ?_ | (apply cx63; refine kl tx63 ?_) | (apply cx64; refine kl tx64 ?_) | (apply cx65; refine kl tx65 ?_) | (apply cx66; refine kl tx66 ?_) | refine jD ?_ | refine ⟨snc, _, snr, ?_⟩ | refine ⟨⟨Nat.le_refl _, rfl⟩, [], rfl, ?_⟩ | refine And.intro ⟨rfl, rfl, by decide, rfl⟩ ?_ | refine jP ?_ | refine jO ?_ | refine jX ?_ | refine jb jr ?_ | refine jb ofs ?_ | refine ko jc ?_ | refine ko jp ?_ | refine jM ?_ | refine kr ?_ | refine ko rfl ?_ | refine And.intro (cs_shal _) ?_ | refine And.intro (rfl : List.all _ _ = true) ?_ | refine And.intro ⟨rfl, (rfl : List.all _ _ = true)⟩ ?_ | exact ⟨rfl, rfl⟩ | exact jV | fail))
                  refine ⟨⟨a + 1, by omega, all_suc ha.2 ha2 (fun q => by
                    obtain ⟨_, q⟩ := q
                    exact bft hv q)⟩, by simp only; omega, ?_⟩
                  exact jw []
                · repeat' ((conv => whnf); (first | refine k0 ?_ | refine jA fun _ => ?_ | refine jB fun _ => ?_ | refine kC (fun _ => ?_) fun _ => ?_ | refine jS ?_ | refine jI ?_ | (apply cx63; refine kl tx63 ?_) | (apply cx64; refine kl tx64 ?_) | (apply cx65; refine kl tx65 ?_) | (apply cx66; refine kl tx66 ?_) | refine jD ?_ | refine ⟨snc, _, snr, ?_⟩ | refine ⟨⟨Nat.le_refl _, rfl⟩, [], rfl, ?_⟩ | refine And.intro ⟨rfl, rfl, by decide, rfl⟩ ?_ | refine jP ?_ | refine jO ?_ | refine jX ?_ | refine jb jr ?_ | refine jb ofs ?_ | refine ko jc ?_ | refine ko jp ?_ | refine jM ?_ | refine kr ?_ | refine ko rfl ?_ | refine And.intro (cs_shal _) ?_ | refine And.intro (rfl : List.all _ _ = true) ?_ | refine And.intro ⟨rfl, (rfl : List.all _ _ = true)⟩ ?_ | exact ⟨rfl, rfl⟩ | exact jV | fail))
                  exact ⟨vI1 (cdN_4 h1 h2 h3 h4 (bOf_y ⟨h5i, h5p⟩) ⟨a, ha2, hp2, hv⟩), rfl⟩
              · obtain rfl : a = d.prim.length := by omega
                repeat' ((conv => whnf); (first | refine k0 ?_ | refine jA fun _ => ?_ | refine jB fun _ => ?_ | refine kC (fun _ => ?_) fun _ => ?_ | refine jS ?_ | refine jI ?_ | (apply cx63; refine kl tx63 ?_) | (apply cx64; refine kl tx64 ?_) | (apply cx65; refine kl tx65 ?_) | (apply cx66; refine kl tx66 ?_) | refine jD ?_ | refine ⟨snc, _, snr, ?_⟩ | refine ⟨⟨Nat.le_refl _, rfl⟩, [], rfl, ?_⟩ | refine And.intro ⟨rfl, rfl, by decide, rfl⟩ ?_ | refine jP ?_ | refine jO ?_ | refine jX ?_ | refine jb jr ?_ | refine jb ofs ?_ | refine ko jc ?_ | refine ko jp ?_ | refine jM ?_ | refine kr ?_ | refine ko rfl ?_ | refine And.intro (cs_shal _) ?_ | refine And.intro (rfl : List.all _ _ = true) ?_ | refine And.intro ⟨rfl, (rfl : List.all _ _ = true)⟩ ?_ | exact ⟨rfl, rfl⟩ | exact jV | fail))
                exact ⟨vI1 (cdN_0 h1 h2 h3 h4 (bOf_y ⟨h5i, h5p⟩) (fun q => by
                  obtain ⟨i, hi, q⟩ := q
                  exact ha.2 i hi hi q)), rfl⟩
          · skip
            have hA : T 66 [.val true (dfC false d)] [vB false] [none] := by
              have h := tx66 (d := d)
              rwa [bNt h5] at h
            repeat' ((conv => whnf); (first | (apply cx63; refine kl (hN) ?_) | (apply cx64; refine kl (hT) ?_) | (apply cx65; refine kl (hO) ?_) | (apply cx66; refine kl (hA) ?_) | refine k0 ?_ | refine jA fun _ => ?_ | refine jB fun _ => ?_ | refine kC (fun _ => ?_) fun _ => ?_ | refine jS ?_ | refine jI ?_ | (apply cx63; refine kl tx63 ?_) | (apply cx64; refine kl tx64 ?_) | (apply cx65; refine kl tx65 ?_) | (apply cx66; refine kl tx66 ?_) | refine jD ?_ | refine ⟨snc, _, snr, ?_⟩ | refine ⟨⟨Nat.le_refl _, rfl⟩, [], rfl, ?_⟩ | refine And.intro ⟨rfl, rfl, by decide, rfl⟩ ?_ | refine jP ?_ | refine jO ?_ | refine jX ?_ | refine jb jr ?_ | refine jb ofs ?_ | refine ko jc ?_ | refine ko jp ?_ | refine jM ?_ | refine kr ?_ | refine ko rfl ?_ | refine And.intro (cs_shal _) ?_ | refine And.intro (rfl : List.all _ _ = true) ?_ | refine And.intro ⟨rfl, (rfl : List.all _ _ = true)⟩ ?_ | exact ⟨rfl, rfl⟩ | exact jV | fail))
            exact ⟨vI1 (cdN_5 h1 h2 h3 h4 (bNt h5)), rfl⟩
      · skip
        have hO : T 65 [.val true (dfC false d)] [vB false] [none] := by
          have h := tx65 (d := d)
          rwa [bNt h3] at h
        repeat' ((conv => whnf); (first | (apply cx63; refine kl (hN) ?_) | (apply cx64; refine kl (hT) ?_) | (apply cx65; refine kl (hO) ?_) | refine k0 ?_ | refine jA fun _ => ?_ | refine jB fun _ => ?_ | refine kC (fun _ => ?_) fun _ => ?_ | refine jS ?_ | refine jI ?_ | (apply cx63; refine kl tx63 ?_) | (apply cx64; refine kl tx64 ?_) | (apply cx65; refine kl tx65 ?_) | (apply cx66; refine kl tx66 ?_) | refine jD ?_ | refine ⟨snc, _, snr, ?_⟩ | refine ⟨⟨Nat.le_refl _, rfl⟩, [], rfl, ?_⟩ | refine And.intro ⟨rfl, rfl, by decide, rfl⟩ ?_ | refine jP ?_ | refine jO ?_ | refine jX ?_ | refine jb jr ?_ | refine jb ofs ?_ | refine ko jc ?_ | refine ko jp ?_ | refine jM ?_ | refine kr ?_ | refine ko rfl ?_ | refine And.intro (cs_shal _) ?_ | refine And.intro (rfl : List.all _ _ = true) ?_ | refine And.intro ⟨rfl, (rfl : List.all _ _ = true)⟩ ?_ | exact ⟨rfl, rfl⟩ | exact jV | fail))
        exact ⟨vI1 (cdN_3 h1 h2 (bNt h3)), rfl⟩
    · skip
      have hT : T 64 [.val true (dfC false d)] [vB false] [none] := by
        have h := tx64 (d := d)
        rwa [bNt h2] at h
      repeat' ((conv => whnf); (first | (apply cx63; refine kl (hN) ?_) | (apply cx64; refine kl (hT) ?_) | refine k0 ?_ | refine jA fun _ => ?_ | refine jB fun _ => ?_ | refine kC (fun _ => ?_) fun _ => ?_ | refine jS ?_ | refine jI ?_ | (apply cx63; refine kl tx63 ?_) | (apply cx64; refine kl tx64 ?_) | (apply cx65; refine kl tx65 ?_) | (apply cx66; refine kl tx66 ?_) | refine jD ?_ | refine ⟨snc, _, snr, ?_⟩ | refine ⟨⟨Nat.le_refl _, rfl⟩, [], rfl, ?_⟩ | refine And.intro ⟨rfl, rfl, by decide, rfl⟩ ?_ | refine jP ?_ | refine jO ?_ | refine jX ?_ | refine jb jr ?_ | refine jb ofs ?_ | refine ko jc ?_ | refine ko jp ?_ | refine jM ?_ | refine kr ?_ | refine ko rfl ?_ | refine And.intro (cs_shal _) ?_ | refine And.intro (rfl : List.all _ _ = true) ?_ | refine And.intro ⟨rfl, (rfl : List.all _ _ = true)⟩ ?_ | exact ⟨rfl, rfl⟩ | exact jV | fail))
      exact ⟨vI1 (cdN_2 h1 (bNt h2)), rfl⟩
  · skip
    have hN : T 63 [.val true (dfC false d)] [vB false] [none] := by
      have h := tx63 (d := d)
      rwa [bNt h1] at h
    repeat' ((conv => whnf); (first | (apply cx63; refine kl (hN) ?_) | refine k0 ?_ | refine jA fun _ => ?_ | refine jB fun _ => ?_ | refine kC (fun _ => ?_) fun _ => ?_ | refine jS ?_ | refine jI ?_ | (apply cx63; refine kl tx63 ?_) | (apply cx64; refine kl tx64 ?_) | (apply cx65; refine kl tx65 ?_) | (apply cx66; refine kl tx66 ?_) | refine jD ?_ | refine ⟨snc, _, snr, ?_⟩ | refine ⟨⟨Nat.le_refl _, rfl⟩, [], rfl, ?_⟩ | refine And.intro ⟨rfl, rfl, by decide, rfl⟩ ?_ | refine jP ?_ | refine jO ?_ | refine jX ?_ | refine jb jr ?_ | refine jb ofs ?_ | refine ko jc ?_ | refine ko jp ?_ | refine jM ?_ | refine kr ?_ | refine ko rfl ?_ | refine And.intro (cs_shal _) ?_ | refine And.intro (rfl : List.all _ _ = true) ?_ | refine And.intro ⟨rfl, (rfl : List.all _ _ = true)⟩ ?_ | exact ⟨rfl, rfl⟩ | exact jV | fail))
    exact ⟨vI1 (cdN_1 (bNt h1)), rfl⟩

theorem cx43 {P : Program} {X : FuncId → List Arg → List (Bool × List Cell) → List (Option (List Cell)) → Prop} {a : List Arg} {Q : List (Bool × List Cell) → List (Option (List Cell)) → Prop} (h : ∃ b vals outs, a = b ∧ D P X (.call 43 b vals outs) ∧ Q vals outs) : CallS P X 43 a Q := ⟨h⟩

end Go.Proofs.YtkimclpagokeaaaGreatDoor
