/- Functions of the program, each with what it gives back. -/
import Derived.Test.YtopnaijeicknoaaGreatDoorKe
import Derived.Test.YtopnaijeicknoaaGreatDoorChecked
import Derived.IntWalk
import Derived.Test.YtopnaijeicknoaaGreatDoorMr
namespace Go.Proofs.YtopnaijeicknoaaGreatDoor
open Go Go.RowKit Go.IntWalk
open Enc (sz cs)
attribute [local irreducible] IntKind.wrap

/-! ### Plans -/
attribute [local irreducible] ptsO ptO pkR ppN bOf fstI fbN cdN kyB enB
theorem cd_all {d : Df} (h : cdN d = 0) : d.idx.length ≤ 2 ∧ AllOk d ∧ TypOk d := by
  cases h1 : nmsOk d with
  | false => rw [cdN_1 h1] at h; cases h
  | true =>
    cases h2 : typOk d with
    | false => rw [cdN_2 h1 h2] at h; cases h
    | true =>
      cases h3 : oncOk d with
      | false => rw [cdN_3 h1 h2 h3] at h; cases h
      | true =>
        by_cases h4 : 2 < d.idx.length
        · rw [cdN_6 h1 h2 h3 h4] at h; cases h
        · cases h5 : allOk d with
          | false => rw [cdN_5 h1 h2 h3 h4 h5] at h; cases h
          | true => exact ⟨by omega, bOf_t h5, bOf_t h2⟩
noncomputable def ixN (d : Df) (i : Int) : List Prt := if h : cdN d = 0 ∧ 0 ≤ i ∧ i.toNat < d.idx.length then ptsO d (d.idx[i.toNat]'h.2.2).parts ++ ptsO d d.prim else []
theorem ixN_y {d : Df} {i : Int} (h : cdN d = 0) (h1 : 0 ≤ i) (h2 : i.toNat < d.idx.length) : ixN d i = ptsO d d.idx[i.toNat].parts ++ ptsO d d.prim := dif_pos ⟨h, h1, h2⟩
theorem ixN_n {d : Df} {i : Int} (h : ¬ (cdN d = 0 ∧ 0 ≤ i ∧ i.toNat < d.idx.length)) : ixN d i = [] := dif_neg h
theorem ixN_len {d : Df} {i : Int} : (ixN d i).length ≤ 4 := by
  by_cases h : cdN d = 0 ∧ 0 ≤ i ∧ i.toNat < d.idx.length
  · rw [ixN_y h.1 h.2.1 h.2.2, List.length_append, ptsO_len, ptsO_len]
    obtain ⟨_, ha, _⟩ := cd_all h.1
    have h1 := inB_iff.1 (bOf_t (ha.idx _ h.2.2)).len
    have h2 := inB_iff.1 (bOf_t ha.prim).len
    omega
  · rw [ixN_n h]; exact Nat.zero_le _

set_option maxHeartbeats 2000000 in
set_option maxRecDepth 100000 in
theorem tx160 {d : Df} {i : Int} (hd : zDf d ≤ 2000000 := by first | assumption | omega | (simp; done) | (simp; omega)) : T 160 [.val true (dfC false d), aI i] [vE (ixN d i)] [none, none] := by
  refine w_call md [[4]] Tryz.func160 rfl ?_
  obtain ⟨q1, q2, q3, q4, q5, q6⟩ := zDf_b hd
  by_cases h : cdN d = 0
  · obtain ⟨hi2, ha, _⟩ := cd_all h
    have hp := cd_prt h
    have hC : T 74 [.val true (dfC false d)] [vI 0] [none] := by
      have h2 := tx74 (d := d)
      rwa [h] at h2
    by_cases hin : inB i 0 ((d.idx.length : Int) - 1) = true
    · have hI : T 48 [aI i, aI 0, aI ((d.idx.length : Int) - 1)] [vB true] [none, none, none] := by
        have h := tx48 (n := i) (l := 0) (h := (d.idx.length : Int) - 1)
        rwa [hin] at h
      have hb := inB_iff.1 hin
      have h2 : i.toNat < d.idx.length := by omega
      have hx := bOf_t (ha.idx _ h2)
      have hx1 := inB_iff.1 hx.len
      have hp1 := inB_iff.1 hp.len
      have l1 := ptsO_len (d := d) (l := d.idx[i.toNat].parts)
      have l2 := ptsO_len (d := d) (l := d.prim)
      rw [ixN_y h hb.1 h2]
      repeat' ((conv => whnf); (first | (apply cx74; refine kl (hC) ?_) | (apply cx48; refine kl (hI) ?_) | refine And.intro ⟨by omega, by omega⟩ (Exists.intro _ (And.intro (rdI (i := i.toNat) (by omega) (by omega)) ?_)) | (apply cx124; refine kl (tx124 (d := d) (l := d.idx[i.toNat].parts)) ?_) | (apply cx124; refine kl (tx124 (d := d) (l := d.prim)) ?_) | refine Exists.intro _ (Exists.intro _ (And.intro (srcO (α := Prt) (xs := ptsO d d.prim) rfl rfl) (And.intro ⟨by simp, bgb (by omega), bg (by omega)⟩ (apE (ys := ptsO d d.prim) ?_)))) | refine k0 ?_ | refine jA fun _ => ?_ | refine jB fun _ => ?_ | refine kC (fun _ => ?_) fun _ => ?_ | (apply cx74; refine kl tx74 ?_) | (apply cx48; refine kl tx48 ?_) | (apply cx124; refine kl tx124 ?_) | refine jst ?_ | exact ⟨rfl, rfl⟩ | exact jV | fail))
    · have hI : T 48 [aI i, aI 0, aI ((d.idx.length : Int) - 1)] [vB false] [none, none, none] := by
        have h := tx48 (n := i) (l := 0) (h := (d.idx.length : Int) - 1)
        rwa [bNt hin] at h
      rw [ixN_n fun q => hin (inB_iff.2 (by omega))]
      repeat' ((conv => whnf); (first | (apply cx74; refine kl (hC) ?_) | (apply cx48; refine kl (hI) ?_) | refine k0 ?_ | refine jA fun _ => ?_ | refine jB fun _ => ?_ | refine kC (fun _ => ?_) fun _ => ?_ | (apply cx74; refine kl tx74 ?_) | (apply cx48; refine kl tx48 ?_) | (apply cx124; refine kl tx124 ?_) | refine jst ?_ | exact ⟨rfl, rfl⟩ | exact jV | fail))
  · rw [ixN_n fun q => h q.1]
    repeat' ((conv => whnf); (first | (apply cx74; refine kl (tx74 (d := d)) ?_) | refine k0 ?_ | refine jA fun _ => ?_ | refine jB fun _ => ?_ | refine kC (fun _ => ?_) fun _ => ?_ | (apply cx74; refine kl tx74 ?_) | (apply cx48; refine kl tx48 ?_) | (apply cx124; refine kl tx124 ?_) | refine jst ?_ | exact ⟨rfl, rfl⟩ | exact jV | fail))

theorem cx160 {P : Program} {X : FuncId → List Arg → List (Bool × List Cell) → List (Option (List Cell)) → Prop} {a : List Arg} {Q : List (Bool × List Cell) → List (Option (List Cell)) → Prop} (h : ∃ b vals outs, a = b ∧ D P X (.call 160 b vals outs) ∧ Q vals outs) : CallS P X 160 a Q := ⟨h⟩

set_option maxHeartbeats 2000000 in
set_option maxRecDepth 100000 in
theorem tx164 {d : Df} {i : Int} (hd : zDf d ≤ 2000000 := by first | assumption | omega | (simp; done) | (simp; omega)) : T 164 [.val true (dfC false d), aI i] [vE (ixN d i)] [none, none] := by
  refine w_call md [] Tryz.func164 rfl ?_
  obtain ⟨q1, q2, q3, q4, q5, q6⟩ := zDf_b hd
  by_cases h : cdN d = 0
  · obtain ⟨hi2, ha, _⟩ := cd_all h
    have hp := cd_prt h
    have hC : T 63 [.val true (dfC false d)] [vI 0] [none] := by
      have h2 := tx63 (d := d)
      rwa [h] at h2
    by_cases hin : inB i 0 ((d.idx.length : Int) - 1) = true
    · have hI : T 88 [aI i, aI 0, aI ((d.idx.length : Int) - 1)] [vB true] [none, none, none] := by
        have h := tx88 (n := i) (l := 0) (h := (d.idx.length : Int) - 1)
        rwa [hin] at h
      have hb := inB_iff.1 hin
      have h2 : i.toNat < d.idx.length := by omega
      have hx := bOf_t (ha.idx _ h2)
      have hx1 := inB_iff.1 hx.len
      have hp1 := inB_iff.1 hp.len
      have l1 := ptsO_len (d := d) (l := d.idx[i.toNat].parts)
      have l2 := ptsO_len (d := d) (l := d.prim)
      rw [ixN_y h hb.1 h2]
      repeat' ((conv => whnf); (first | (apply cx63; refine kl (hC) ?_) | (apply cx88; refine kl (hI) ?_) | refine And.intro ⟨by omega, by omega⟩ (Exists.intro _ (And.intro (rdI (i := i.toNat) (by omega) (by omega)) ?_)) | (apply cx107; refine kl (tx107 (d := d) (l := d.idx[i.toNat].parts)) ?_) | (apply cx107; refine kl (tx107 (d := d) (l := d.prim)) ?_) | refine Exists.intro _ (Exists.intro _ (And.intro (srcO (α := Prt) (xs := ptsO d d.prim) rfl rfl) (And.intro ⟨by simp, bgb (by omega), bg (by omega)⟩ (apE (ys := ptsO d d.prim) ?_)))) | refine k0 ?_ | refine jA fun _ => ?_ | refine jB fun _ => ?_ | refine kC (fun _ => ?_) fun _ => ?_ | (apply cx63; refine kl tx63 ?_) | (apply cx88; refine kl tx88 ?_) | (apply cx107; refine kl tx107 ?_) | refine jst ?_ | exact ⟨rfl, rfl⟩ | exact jV | fail))
    · have hI : T 88 [aI i, aI 0, aI ((d.idx.length : Int) - 1)] [vB false] [none, none, none] := by
        have h := tx88 (n := i) (l := 0) (h := (d.idx.length : Int) - 1)
        rwa [bNt hin] at h
      rw [ixN_n fun q => hin (inB_iff.2 (by omega))]
      repeat' ((conv => whnf); (first | (apply cx63; refine kl (hC) ?_) | (apply cx88; refine kl (hI) ?_) | refine k0 ?_ | refine jA fun _ => ?_ | refine jB fun _ => ?_ | refine kC (fun _ => ?_) fun _ => ?_ | (apply cx63; refine kl tx63 ?_) | (apply cx88; refine kl tx88 ?_) | (apply cx107; refine kl tx107 ?_) | refine jst ?_ | exact ⟨rfl, rfl⟩ | exact jV | fail))
  · rw [ixN_n fun q => h q.1]
    repeat' ((conv => whnf); (first | (apply cx63; refine kl (tx63 (d := d)) ?_) | refine k0 ?_ | refine jA fun _ => ?_ | refine jB fun _ => ?_ | refine kC (fun _ => ?_) fun _ => ?_ | (apply cx63; refine kl tx63 ?_) | (apply cx88; refine kl tx88 ?_) | (apply cx107; refine kl tx107 ?_) | refine jst ?_ | exact ⟨rfl, rfl⟩ | exact jV | fail))

theorem cx164 {P : Program} {X : FuncId → List Arg → List (Bool × List Cell) → List (Option (List Cell)) → Prop} {a : List Arg} {Q : List (Bool × List Cell) → List (Option (List Cell)) → Prop} (h : ∃ b vals outs, a = b ∧ D P X (.call 164 b vals outs) ∧ Q vals outs) : CallS P X 164 a Q := ⟨h⟩

/-- The plan of rows. -/
def rpL (d : Df) : List Prt := d.cols.mapIdx fun i c => ⟨i, c.type, c.null, false⟩
theorem rpL_len {d : Df} : (rpL d).length = d.cols.length := List.length_mapIdx
theorem rpL_take {d : Df} {i : Nat} (h : i < d.cols.length) : (rpL d).take (i + 1) = (rpL d).take i ++ [⟨i, d.cols[i].type, d.cols[i].null, false⟩] := by
  rw [take_one (by rw [rpL_len]; exact h)]
  simp only [rpL, List.getElem_mapIdx]
noncomputable def rpN (d : Df) : List Prt := if cdN d = 0 then rpL d else []
theorem rpN_y {d : Df} (h : cdN d = 0) : rpN d = rpL d := if_pos h
theorem rpN_n {d : Df} (h : ¬ cdN d = 0) : rpN d = [] := if_neg h
theorem rpN_len {d : Df} : (rpN d).length ≤ 6 := by
  by_cases h : cdN d = 0
  · rw [rpN_y h, rpL_len]
    have := inB_iff.1 (cd_all h).2.2.len
    omega
  · rw [rpN_n h]; exact Nat.zero_le _
attribute [local irreducible] rpL

set_option maxHeartbeats 2000000 in
set_option maxRecDepth 100000 in
theorem tx75 {d : Df} (hd : zDf d ≤ 2000000 := by first | assumption | omega | (simp; done) | (simp; omega)) : T 75 [.val true (dfC false d)] [vE (rpN d)] [none] := by
  refine w_call md [[4]] Tryz.func75 rfl ?_
  obtain ⟨q1, q2, q3, q4, q5, q6⟩ := zDf_b hd
  by_cases h : cdN d = 0
  · have hC : T 74 [.val true (dfC false d)] [vI 0] [none] := by
      have h2 := tx74 (d := d)
      rwa [h] at h2
    rw [rpN_y h]
    repeat' ((conv => whnf); (first | (apply cx74; refine kl (hC) ?_) | refine k0 ?_ | refine jA fun _ => ?_ | refine jB fun _ => ?_ | refine kC (fun _ => ?_) fun _ => ?_ | (apply cx74; refine kl tx74 ?_) | refine jst ?_ | exact ⟨rfl, rfl⟩ | exact jV | fail))
    conv => whnf
    refine loopk (ι := Nat × List Prt) (fun i => i.1 ≤ d.cols.length ∧ i.2 = (rpL d).take i.1) (fun i => d.cols.length - i.1) ((0, [])) [10, 11] (fun i => [(3, rE 2 i.2), (12, .v false [i6 i.1])]) [none, none, some fun i => nE i.2] ?_
    refine ⟨⟨Nat.zero_le _, rfl⟩, ?_, fun ⟨a, o⟩ ha => ?_⟩
    · exact (w_virt 3 4 rfl rfl).trans (jw [])
    · dsimp only at ha ⊢
      have htl : o.length = a := by rw [ha.2]; exact tkl rpL_len ha.1
      repeat' ((conv => whnf); (first | refine k0 ?_ | (apply cx74; refine kl tx74 ?_) | refine jst ?_ | exact ⟨rfl, rfl⟩ | exact jV | fail))
      conv => whnf
      refine ⟨fun hlt => ?_, fun hge => ?_⟩
      · dsimp only at hlt
        have ha2 : a < d.cols.length := by omega
        repeat' ((conv => whnf); (first | refine jap (N := cs true ([⟨a, d.cols[a].type, d.cols[a].null, false⟩] : List Prt)) (apE ?_) | refine k0 ?_ | refine jA fun _ => ?_ | refine jB fun _ => ?_ | refine kC (fun _ => ?_) fun _ => ?_ | (apply cx74; refine kl tx74 ?_) | refine jst ?_ | exact ⟨rfl, rfl⟩ | exact jV | fail))
        refine ⟨⟨(a + 1, o ++ [⟨a, d.cols[a].type, d.cols[a].null, false⟩]), by simp only; omega, by simp only; rw [rpL_take ha2, ha.2]⟩, by simp only; omega, ?_⟩
        dsimp only
        exact jw []
      · dsimp only at hge
        obtain rfl : a = d.cols.length := by omega
        have e : o = rpL d := by rw [ha.2, ← rpL_len]; exact List.take_length
        repeat' ((conv => whnf); (first | refine k0 ?_ | refine jA fun _ => ?_ | refine jB fun _ => ?_ | refine kC (fun _ => ?_) fun _ => ?_ | (apply cx74; refine kl tx74 ?_) | refine jst ?_ | exact ⟨rfl, rfl⟩ | exact jV | fail))
        all_goals exact ⟨by rw [e], rfl⟩
  · rw [rpN_n h]
    repeat' ((conv => whnf); (first | (apply cx74; refine kl (tx74 (d := d)) ?_) | refine k0 ?_ | refine jA fun _ => ?_ | refine jB fun _ => ?_ | refine kC (fun _ => ?_) fun _ => ?_ | (apply cx74; refine kl tx74 ?_) | refine jst ?_ | exact ⟨rfl, rfl⟩ | exact jV | fail))

theorem cx75 {P : Program} {X : FuncId → List Arg → List (Bool × List Cell) → List (Option (List Cell)) → Prop} {a : List Arg} {Q : List (Bool × List Cell) → List (Option (List Cell)) → Prop} (h : ∃ b vals outs, a = b ∧ D P X (.call 75 b vals outs) ∧ Q vals outs) : CallS P X 75 a Q := ⟨h⟩

set_option maxHeartbeats 2000000 in
set_option maxRecDepth 100000 in
theorem tx66 {d : Df} (hd : zDf d ≤ 2000000 := by first | assumption | omega | (simp; done) | (simp; omega)) : T 66 [.val true (dfC false d)] [vE (rpN d)] [none] := by
  refine w_call md [] Tryz.func66 rfl ?_
  obtain ⟨q1, q2, q3, q4, q5, q6⟩ := zDf_b hd
  by_cases h : cdN d = 0
  · have hC : T 63 [.val true (dfC false d)] [vI 0] [none] := by
      have h2 := tx63 (d := d)
      rwa [h] at h2
    rw [rpN_y h]
    repeat' ((conv => whnf); (first | refine k0 ?_ | refine jA fun _ => ?_ | refine jB fun _ => ?_ | refine kC (fun _ => ?_) fun _ => ?_ | (apply cx63; refine kl tx63 ?_) | (apply cx110; refine kl tx110 ?_) | refine jst ?_ | exact ⟨rfl, rfl⟩ | exact jV | fail))
    conv => whnf
    refine loopk (ι := Nat × List Prt) (fun i => i.1 ≤ d.cols.length ∧ i.2 = (rpL d).take i.1) (fun i => d.cols.length - i.1) ((0, [])) [1] (fun i => [(3, rE 2 i.2), (4, .v false [i6 i.1])]) [none, some fun _ => some (true, dfC false d), some fun i => nE i.2] ?_
    refine ⟨⟨Nat.zero_le _, rfl⟩, ?_, fun ⟨a, o⟩ ha => ?_⟩
    · exact jw []
    · dsimp only at ha ⊢
      have htl : o.length = a := by rw [ha.2]; exact tkl rpL_len ha.1
      repeat' ((conv => whnf); (first | refine k0 ?_ | (apply cx63; refine kl tx63 ?_) | (apply cx110; refine kl tx110 ?_) | refine jst ?_ | exact ⟨rfl, rfl⟩ | exact jV | fail))
      conv => whnf
      refine ⟨fun hlt => ?_, fun hge => ?_⟩
      · dsimp only at hlt
        have ha2 : a < d.cols.length := by omega
        have hP : T 110 [.val true (dfC false d), aI (a : Nat), aB false] [(true, prtC ⟨a, d.cols[a].type, d.cols[a].null, false⟩)] [none, none, none] := by
          have h := tx110 (d := d) (p := ⟨a, false⟩) (h1 := by simp only; omega) (h2 := by simp only; omega)
          rw [ptO_at (by simp only; omega)] at h
          exact h
        repeat' ((conv => whnf); (first | (apply cx63; refine kl (hC) ?_) | (apply cx110; refine kl (hP) ?_) | refine jap (N := cs true ([⟨a, d.cols[a].type, d.cols[a].null, false⟩] : List Prt)) (apE ?_) | refine k0 ?_ | refine jA fun _ => ?_ | refine jB fun _ => ?_ | refine kC (fun _ => ?_) fun _ => ?_ | (apply cx63; refine kl tx63 ?_) | (apply cx110; refine kl tx110 ?_) | refine jst ?_ | exact ⟨rfl, rfl⟩ | exact jV | fail))
        refine ⟨⟨(a + 1, o ++ [⟨a, d.cols[a].type, d.cols[a].null, false⟩]), by simp only; omega, by simp only; rw [rpL_take ha2, ha.2]⟩, by simp only; omega, ?_⟩
        dsimp only
        exact jw []
      · dsimp only at hge
        obtain rfl : a = d.cols.length := by omega
        have e : o = rpL d := by rw [ha.2, ← rpL_len]; exact List.take_length
        repeat' ((conv => whnf); (first | refine k0 ?_ | refine jA fun _ => ?_ | refine jB fun _ => ?_ | refine kC (fun _ => ?_) fun _ => ?_ | (apply cx63; refine kl tx63 ?_) | (apply cx110; refine kl tx110 ?_) | refine jst ?_ | exact ⟨rfl, rfl⟩ | exact jV | fail))
        all_goals exact ⟨by rw [e], rfl⟩
  · rw [rpN_n h]
    repeat' ((conv => whnf); (first | refine k0 ?_ | refine jA fun _ => ?_ | refine jB fun _ => ?_ | refine kC (fun _ => ?_) fun _ => ?_ | (apply cx63; refine kl tx63 ?_) | (apply cx110; refine kl tx110 ?_) | refine jst ?_ | exact ⟨rfl, rfl⟩ | exact jV | fail))
    conv => whnf
    refine loopk (ι := Nat) (fun i => i = 0) (fun i => 0) (0) [1] (fun i => [(3, rE 2 ([] : List Prt)), (4, .v false [i6 i])]) [none, some fun _ => some (true, dfC false d), some fun _ => nE ([] : List Prt)] ?_
    refine ⟨rfl, ?_, fun a ha => ?_⟩
    · exact jw []
    · subst ha
      repeat' ((conv => whnf); (first | (apply cx63; refine kl (tx63 (d := d)) ?_) | refine k0 ?_ | refine jA fun _ => ?_ | refine jB fun _ => ?_ | refine kC (fun _ => ?_) fun _ => ?_ | (apply cx63; refine kl tx63 ?_) | (apply cx110; refine kl tx110 ?_) | refine jst ?_ | exact ⟨rfl, rfl⟩ | exact jV | fail))

theorem cx66 {P : Program} {X : FuncId → List Arg → List (Bool × List Cell) → List (Option (List Cell)) → Prop} {a : List Arg} {Q : List (Bool × List Cell) → List (Option (List Cell)) → Prop} (h : ∃ b vals outs, a = b ∧ D P X (.call 66 b vals outs) ∧ Q vals outs) : CallS P X 66 a Q := ⟨h⟩

end Go.Proofs.YtopnaijeicknoaaGreatDoor
