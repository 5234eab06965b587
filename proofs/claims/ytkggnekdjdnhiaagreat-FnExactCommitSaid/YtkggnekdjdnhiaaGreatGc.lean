/- Functions of the program, each with what it gives back. -/
import Derived.Test.YtkggnekdjdnhiaaGreatKe
import Derived.Test.YtkggnekdjdnhiaaGreatChecked
import Derived.IntWalk
import Derived.Test.YtkggnekdjdnhiaaGreatFx
import Derived.Test.YtkggnekdjdnhiaaGreatFy
import Derived.Test.YtkggnekdjdnhiaaGreatGa
namespace Go.Proofs.YtkggnekdjdnhiaaGreat
open Go Go.RowKit Go.IntWalk
open Enc (sz cs)
attribute [local irreducible] IntKind.wrap

theorem wrL_z {d : Dsk} {l : List Fre} : wrL d (l.take 0) = (d, 0) := rfl
theorem wrL_go {t : Txn} {i : Nat} (hi : i < t.new.length) (h : (wrL t.d (t.new.take i)).2 = 0) : wrL t.d (t.new.take (i + 1)) = (wrD (wrL t.d (t.new.take i)).1 t.new[i].n (pgN t.new[i].x)) := by
  rw [wrL_suc hi, cmS_y h]
theorem cmW_0 {t : Txn} {i : Nat} (hi : i < t.new.length) (h : (wrL t.d (t.new.take i)).2 = 0) (hb : ¬ (wrD (wrL t.d (t.new.take i)).1 t.new[i].n (pgN t.new[i].x)).2 = 0) : cmW t = (wrD (wrL t.d (t.new.take i)).1 t.new[i].n (pgN t.new[i].x)) := by
  have e := wrL_go hi h
  have e2 : wrL t.d t.new = (wrD (wrL t.d (t.new.take i)).1 t.new[i].n (pgN t.new[i].x)) := by rw [← e]; exact wrL_bad (by rw [e]; exact hb)
  unfold cmW; rw [e2, flS_n hb, cmS_n hb, flS_n hb]
theorem cmW_1 {t : Txn} (h : (wrL t.d (t.new.take t.new.length)).2 = 0) (hb : ¬ (flD (wrL t.d (t.new.take t.new.length)).1).2 = 0) : cmW t = (flD (wrL t.d (t.new.take t.new.length)).1) := by
  rw [wrL_all] at *
  unfold cmW; rw [flS_y h, cmS_n hb, flS_n hb]
theorem cmW_2 {t : Txn} (h : (wrL t.d (t.new.take t.new.length)).2 = 0) (h2 : (flD (wrL t.d (t.new.take t.new.length)).1).2 = 0) (hb : ¬ (wrD (flD (wrL t.d (t.new.take t.new.length)).1).1 ((t.m.gen + 1).tmod 2) (ptM ⟨t.m.gen + 1, t.root⟩)).2 = 0) : cmW t = (wrD (flD (wrL t.d (t.new.take t.new.length)).1).1 ((t.m.gen + 1).tmod 2) (ptM ⟨t.m.gen + 1, t.root⟩)) := by
  rw [wrL_all] at *
  unfold cmW; rw [flS_y h, cmS_y h2, flS_n hb]
theorem cmW_3 {t : Txn} (h : (wrL t.d (t.new.take t.new.length)).2 = 0) (h2 : (flD (wrL t.d (t.new.take t.new.length)).1).2 = 0) (h3 : (wrD (flD (wrL t.d (t.new.take t.new.length)).1).1 ((t.m.gen + 1).tmod 2) (ptM ⟨t.m.gen + 1, t.root⟩)).2 = 0) : cmW t = (flD (wrD (flD (wrL t.d (t.new.take t.new.length)).1).1 ((t.m.gen + 1).tmod 2) (ptM ⟨t.m.gen + 1, t.root⟩)).1) := by
  rw [wrL_all] at *
  unfold cmW; rw [flS_y h, cmS_y h2, flS_y h3]
attribute [local irreducible] gU gT gS gP gM ptP ptM ptS crcN rdS bestM ndA txOk wrD flD losD wrL cmT cmW

set_option maxRecDepth 100000 in
theorem tx57 {x : Nod} (hx : zN x ≤ 2000000 := by first | assumption | omega | (simp; done) | (simp; omega)) : T 57 [.val true (nodC false x)] [vE (if nodOk x = true then bdN x else [])] [none] := by
  refine w_call md [] Tryz.func57 rfl ?_
  repeat' ((conv => whnf); (first | refine k0 ?_ | refine jA fun _ => ?_ | refine jB fun _ => ?_ | refine kC (fun _ => ?_) fun _ => ?_ | (apply cx94; refine kl tx94 ?_) | (apply cx106; refine kl tx106 ?_) | refine jst ?_ | exact ⟨rfl, rfl⟩ | exact jV | fail))
  all_goals first | exact ⟨by rw [if_pos ‹_›], rfl⟩ | exact ⟨by rw [if_neg (by simp [*])]; rfl, rfl⟩

theorem cx57 {P : Program} {X : FuncId → List Arg → List (Bool × List Cell) → List (Option (List Cell)) → Prop} {a : List Arg} {Q : List (Bool × List Cell) → List (Option (List Cell)) → Prop} (h : ∃ b vals outs, a = b ∧ D P X (.call 57 b vals outs) ∧ Q vals outs) : CallS P X 57 a Q := ⟨h⟩

set_option maxHeartbeats 2000000 in
set_option maxRecDepth 100000 in
theorem tx23 {t : Txn} (ht : zT t ≤ 1100000 := by first | assumption | omega | (simp; done) | (simp; omega)) : T 23 [.val true (txnC false t)] [(true, dskC true (cmT t).1), vI (cmT t).2] [none] := by
  refine w_call md [[], []] Tryz.func23 rfl ?_
  have hzd := zT_d (t := t)
  by_cases hA : txOk t = true ∧ t.d.cache.length = 0 ∧ t.m.gen < 1000000
  · obtain ⟨hA1, hA2, hA3⟩ := id hA
    have hT := txOk_iff.1 hA1
    have hnl := hT.new_len
    by_cases hB : t.new.length = 0 ∧ t.root = t.m.root
    · obtain ⟨hB1, hB2⟩ := id hB
      repeat' ((conv => whnf); (first | (apply cx54; refine kl (tx54 (d := t.d)) ?_) | refine k0 ?_ | refine jA fun _ => ?_ | refine jB fun _ => ?_ | refine kC (fun _ => ?_) fun _ => ?_ | (apply cx54; refine kl tx54 ?_) | (apply cx21; refine kl tx21 ?_) | (apply cx57; refine kl tx57 ?_) | (apply cx56; refine kl tx56 ?_) | (apply cx55; refine kl tx55 ?_) | (apply cx58; refine kl tx58 ?_) | (apply cx59; refine kl tx59 ?_) | refine jst ?_ | exact ⟨rfl, rfl⟩ | exact jV | fail))
      exact ⟨by rw [cmT_eq hA hB]; rfl, rfl⟩
    · by_cases hB1 : t.new.length = 0
      · have hB2 : ¬ t.root = t.m.root := fun e => hB ⟨hB1, e⟩
        repeat' ((conv => whnf); (first | (apply cx54; refine kl (tx54 (d := t.d)) ?_) | refine k0 ?_ | refine jA fun _ => ?_ | refine jB fun _ => ?_ | refine kC (fun _ => ?_) fun _ => ?_ | (apply cx54; refine kl tx54 ?_) | (apply cx21; refine kl tx21 ?_) | (apply cx57; refine kl tx57 ?_) | (apply cx56; refine kl tx56 ?_) | (apply cx55; refine kl tx55 ?_) | (apply cx58; refine kl tx58 ?_) | (apply cx59; refine kl tx59 ?_) | refine jst ?_ | exact ⟨rfl, rfl⟩ | exact jV | fail))
        conv => whnf
        refine loopk (ι := Nat) (fun i => i ≤ t.new.length ∧ (wrL t.d (t.new.take i)).2 = 0) (fun i => t.new.length - i) (0) [1, 2, 4] (fun i => [(5, .v false [i6 i])]) [none, none, none, some fun _ => none, some fun _ => none, some fun _ => none, some fun i => (true, dskC true (wrL t.d (t.new.take i)).1)] ?_
        refine ⟨⟨by omega, by rw [wrL_z]⟩, ?_, fun i hi => ?_⟩
        · exact ((w_inE 6 3 [] t.d.secs [.ref 4 0 t.d.cache.length 2, i6 t.d.ops, .ref 5 0 t.d.faults.length 3, b1 t.d.down] t.d.secs.length 1 rfl).trans ((w_inE 6 4 [slE true t.d.secs] t.d.cache [i6 t.d.ops, .ref 5 0 t.d.faults.length 3, b1 t.d.down] t.d.cache.length 2 rfl).trans (w_inE 6 5 [slE true t.d.secs, slE true t.d.cache, i6 t.d.ops] t.d.faults [b1 t.d.down] t.d.faults.length 3 rfl))).trans (w_autoX [] (by (conv => whnf); exact And.intro (by kernel_rfl) (And.intro (by kernel_rfl) (by repeat' (first | (with_reducible exact rfl) | ((conv => whnf); first | exact trivial | exact (by rw [wrL_z]; exact ⟨rfl, clo_dsk, rfl⟩) | exact rfl | exact tvi (by first | omega | (dsimp only; omega) | (simp; done)) | exact tvr (by first | omega | (dsimp only; omega) | (simp; done) | (simp; omega)) | exact ⟨rfl, clo_i, by first | rfl | rw [List.take_length] | assumption⟩ | refine And.intro ?_ ?_))))))
        · repeat' ((conv => whnf); (first | refine k0 ?_ | (apply cx54; refine kl tx54 ?_) | (apply cx21; refine kl tx21 ?_) | (apply cx57; refine kl tx57 ?_) | (apply cx56; refine kl tx56 ?_) | (apply cx55; refine kl tx55 ?_) | (apply cx58; refine kl tx58 ?_) | (apply cx59; refine kl tx59 ?_) | refine jst ?_ | exact ⟨rfl, rfl⟩ | exact jV | fail))
          conv => whnf
          refine ⟨fun hlt => ?_, fun hge => ?_⟩
          · exact absurd hlt (by omega)
          · obtain rfl : i = t.new.length := by omega
            have L := wrL_ok hT hA2 hi.1
            have LF := (flD_ok L.ok).1
            have hg := hT.gen
            have hg2 := tm2 (n := t.m.gen + 1) (by omega)
            have hs4 := hT.d.secs
            have LM := wrD_ok (n := (t.m.gen + 1).tmod 2) (b := ptM ⟨t.m.gen + 1, t.root⟩) LF.ok (by have := LF.cache; have := L.cache; have := hT.new_len; omega) (by rw [LF.secs, L.secs]; omega) (ptM_256 _)
            have p1 : zD (wrL t.d (t.new.take t.new.length)).1 ≤ 1000000 := by have := L.ok.small; omega
            have p3 : ∀ f ∈ (wrL t.d (t.new.take t.new.length)).1.faults, 0 ≤ f.cut := L.ok.cut'
            have p5 : 0 ≤ (wrL t.d (t.new.take t.new.length)).1.ops := L.ok.ops.1
            have p7 : ∀ w ∈ (wrL t.d (t.new.take t.new.length)).1.cache, 0 ≤ w.n ∧ w.n < (wrL t.d (t.new.take t.new.length)).1.secs.length := fun w hw => ⟨(L.ok.wri' w hw).1, (L.ok.wri' w hw).2.1⟩
            have q1 : zD (flD (wrL t.d (t.new.take t.new.length)).1).1 ≤ 1000000 := by have := LF.ok.small; omega
            have q2 : (ptM ⟨t.m.gen + 1, t.root⟩).length ≤ 500000 := Nat.le_trans (ptM_256 _) (by decide)
            have q3 : ∀ f ∈ (flD (wrL t.d (t.new.take t.new.length)).1).1.faults, 0 ≤ f.cut := LF.ok.cut'
            have q4 : 0 ≤ (t.m.gen + 1).tmod 2 ∧ (t.m.gen + 1).tmod 2 < (flD (wrL t.d (t.new.take t.new.length)).1).1.secs.length := by rw [LF.secs, L.secs]; omega
            have q5 : 0 ≤ (flD (wrL t.d (t.new.take t.new.length)).1).1.ops := LF.ok.ops.1
            have q6 : (flD (wrL t.d (t.new.take t.new.length)).1).1.cache.length < 60 := by have := LF.cache; have := L.cache; have := hT.new_len; omega
            have q7 : ∀ w ∈ (flD (wrL t.d (t.new.take t.new.length)).1).1.cache, 0 ≤ w.n ∧ w.n < (flD (wrL t.d (t.new.take t.new.length)).1).1.secs.length := fun w hw => ⟨(LF.ok.wri' w hw).1, (LF.ok.wri' w hw).2.1⟩
            have r1 : zD (wrD (flD (wrL t.d (t.new.take t.new.length)).1).1 ((t.m.gen + 1).tmod 2) (ptM ⟨t.m.gen + 1, t.root⟩)).1 ≤ 1000000 := by have := LM.ok.small; omega
            have r3 : ∀ f ∈ (wrD (flD (wrL t.d (t.new.take t.new.length)).1).1 ((t.m.gen + 1).tmod 2) (ptM ⟨t.m.gen + 1, t.root⟩)).1.faults, 0 ≤ f.cut := LM.ok.cut'
            have r5 : 0 ≤ (wrD (flD (wrL t.d (t.new.take t.new.length)).1).1 ((t.m.gen + 1).tmod 2) (ptM ⟨t.m.gen + 1, t.root⟩)).1.ops := LM.ok.ops.1
            have r7 : ∀ w ∈ (wrD (flD (wrL t.d (t.new.take t.new.length)).1).1 ((t.m.gen + 1).tmod 2) (ptM ⟨t.m.gen + 1, t.root⟩)).1.cache, 0 ≤ w.n ∧ w.n < (wrD (flD (wrL t.d (t.new.take t.new.length)).1).1 ((t.m.gen + 1).tmod 2) (ptM ⟨t.m.gen + 1, t.root⟩)).1.secs.length := fun w hw => ⟨(LM.ok.wri' w hw).1, (LM.ok.wri' w hw).2.1⟩
            repeat' ((conv => whnf); (first | refine jA fun _ => ?_ | refine jB fun _ => ?_ | refine kC (fun _ => ?_) fun _ => ?_ | (apply cx54; refine kl tx54 ?_) | (apply cx21; refine kl tx21 ?_) | (apply cx57; refine kl tx57 ?_) | (apply cx56; refine kl tx56 ?_) | (apply cx55; refine kl tx55 ?_) | (apply cx58; refine kl tx58 ?_) | (apply cx59; refine kl tx59 ?_) | refine jst ?_ | exact ⟨rfl, rfl⟩ | exact jV | fail))
            conv => whnf
            refine k0 ?_
            repeat' ((conv => whnf); (first | refine jA fun _ => ?_ | refine jB fun _ => ?_ | refine kC (fun _ => ?_) fun _ => ?_ | (apply cx54; refine kl tx54 ?_) | (apply cx21; refine kl tx21 ?_) | (apply cx57; refine kl tx57 ?_) | (apply cx56; refine kl tx56 ?_) | (apply cx55; refine kl tx55 ?_) | (apply cx58; refine kl tx58 ?_) | (apply cx59; refine kl tx59 ?_) | refine jst ?_ | exact ⟨rfl, rfl⟩ | exact jV | fail))
            conv => whnf
            refine k0 ?_
            repeat' ((conv => whnf); (first | (apply cx58; refine kl (tx58 (d := (wrL t.d (t.new.take t.new.length)).1)) ?_) | refine jA fun _ => ?_ | refine jB fun _ => ?_ | refine kC (fun _ => ?_) fun _ => ?_ | (apply cx54; refine kl tx54 ?_) | (apply cx21; refine kl tx21 ?_) | (apply cx57; refine kl tx57 ?_) | (apply cx56; refine kl tx56 ?_) | (apply cx55; refine kl tx55 ?_) | (apply cx58; refine kl tx58 ?_) | (apply cx59; refine kl tx59 ?_) | refine jst ?_ | exact ⟨rfl, rfl⟩ | exact jV | fail))
            · conv => whnf
              refine bstep (w_outE 6 [] (flD (wrL t.d (t.new.take t.new.length)).1).1.secs [slE true (flD (wrL t.d (t.new.take t.new.length)).1).1.cache, i6 (flD (wrL t.d (t.new.take t.new.length)).1).1.ops, slE true (flD (wrL t.d (t.new.take t.new.length)).1).1.faults, b1 (flD (wrL t.d (t.new.take t.new.length)).1).1.down] 1) ?_
              refine bstep (w_outE 6 [_] (flD (wrL t.d (t.new.take t.new.length)).1).1.cache [i6 (flD (wrL t.d (t.new.take t.new.length)).1).1.ops, slE true (flD (wrL t.d (t.new.take t.new.length)).1).1.faults, b1 (flD (wrL t.d (t.new.take t.new.length)).1).1.down] 2) ?_
              refine bstep (w_outE 6 [_, _, i6 (flD (wrL t.d (t.new.take t.new.length)).1).1.ops] (flD (wrL t.d (t.new.take t.new.length)).1).1.faults [b1 (flD (wrL t.d (t.new.take t.new.length)).1).1.down] 3) ?_
              repeat' ((conv => whnf); (first | refine k0 ?_ | refine jA fun _ => ?_ | refine jB fun _ => ?_ | refine kC (fun _ => ?_) fun _ => ?_ | (apply cx54; refine kl tx54 ?_) | (apply cx21; refine kl tx21 ?_) | (apply cx57; refine kl tx57 ?_) | (apply cx56; refine kl tx56 ?_) | (apply cx55; refine kl tx55 ?_) | (apply cx58; refine kl tx58 ?_) | (apply cx59; refine kl tx59 ?_) | refine jst ?_ | exact ⟨rfl, rfl⟩ | exact jV | fail))
              exact ⟨by rw [cmT_yes hA hB, cmW_1 hi.2 ‹_›, if_neg ‹_›]; rfl, rfl⟩
            · have hF : (flD (wrL t.d (t.new.take t.new.length)).1).2 = 0 := Decidable.byContradiction ‹_›
              conv => whnf
              refine k0 ?_
              repeat' ((conv => whnf); (first | refine jA fun _ => ?_ | refine jB fun _ => ?_ | refine kC (fun _ => ?_) fun _ => ?_ | (apply cx54; refine kl tx54 ?_) | (apply cx21; refine kl tx21 ?_) | (apply cx57; refine kl tx57 ?_) | (apply cx56; refine kl tx56 ?_) | (apply cx55; refine kl tx55 ?_) | (apply cx58; refine kl tx58 ?_) | (apply cx59; refine kl tx59 ?_) | refine jst ?_ | exact ⟨rfl, rfl⟩ | exact jV | fail))
              conv => whnf
              refine k0 ?_
              repeat' ((conv => whnf); (first | refine jA fun _ => ?_ | refine jB fun _ => ?_ | refine kC (fun _ => ?_) fun _ => ?_ | (apply cx54; refine kl tx54 ?_) | (apply cx21; refine kl tx21 ?_) | (apply cx57; refine kl tx57 ?_) | (apply cx56; refine kl tx56 ?_) | (apply cx55; refine kl tx55 ?_) | (apply cx58; refine kl tx58 ?_) | (apply cx59; refine kl tx59 ?_) | refine jst ?_ | exact ⟨rfl, rfl⟩ | exact jV | fail))
              conv => whnf
              refine k0 ?_
              repeat' ((conv => whnf); (first | (apply cx59; refine kl (tx59 (m := ⟨t.m.gen + 1, t.root⟩)) ?_) | (apply cx55; refine kl (tx55 (d := (flD (wrL t.d (t.new.take t.new.length)).1).1) (n := (t.m.gen + 1).tmod 2) (b := ptM ⟨t.m.gen + 1, t.root⟩)) ?_) | (apply cx58; refine kl (tx58 (d := (wrD (flD (wrL t.d (t.new.take t.new.length)).1).1 ((t.m.gen + 1).tmod 2) (ptM ⟨t.m.gen + 1, t.root⟩)).1)) ?_) | refine And.intro (by decide) (Exists.intro _ (And.intro rfl ?_)) | refine jA fun _ => ?_ | refine jB fun _ => ?_ | refine kC (fun _ => ?_) fun _ => ?_ | (apply cx54; refine kl tx54 ?_) | (apply cx21; refine kl tx21 ?_) | (apply cx57; refine kl tx57 ?_) | (apply cx56; refine kl tx56 ?_) | (apply cx55; refine kl tx55 ?_) | (apply cx58; refine kl tx58 ?_) | (apply cx59; refine kl tx59 ?_) | refine jst ?_ | exact ⟨rfl, rfl⟩ | exact jV | fail))
              · conv => whnf
                refine bstep (w_outE 6 [] (wrD (flD (wrL t.d (t.new.take t.new.length)).1).1 ((t.m.gen + 1).tmod 2) (ptM ⟨t.m.gen + 1, t.root⟩)).1.secs [slE true (wrD (flD (wrL t.d (t.new.take t.new.length)).1).1 ((t.m.gen + 1).tmod 2) (ptM ⟨t.m.gen + 1, t.root⟩)).1.cache, i6 (wrD (flD (wrL t.d (t.new.take t.new.length)).1).1 ((t.m.gen + 1).tmod 2) (ptM ⟨t.m.gen + 1, t.root⟩)).1.ops, slE true (wrD (flD (wrL t.d (t.new.take t.new.length)).1).1 ((t.m.gen + 1).tmod 2) (ptM ⟨t.m.gen + 1, t.root⟩)).1.faults, b1 (wrD (flD (wrL t.d (t.new.take t.new.length)).1).1 ((t.m.gen + 1).tmod 2) (ptM ⟨t.m.gen + 1, t.root⟩)).1.down] 1) ?_
                refine bstep (w_outE 6 [_] (wrD (flD (wrL t.d (t.new.take t.new.length)).1).1 ((t.m.gen + 1).tmod 2) (ptM ⟨t.m.gen + 1, t.root⟩)).1.cache [i6 (wrD (flD (wrL t.d (t.new.take t.new.length)).1).1 ((t.m.gen + 1).tmod 2) (ptM ⟨t.m.gen + 1, t.root⟩)).1.ops, slE true (wrD (flD (wrL t.d (t.new.take t.new.length)).1).1 ((t.m.gen + 1).tmod 2) (ptM ⟨t.m.gen + 1, t.root⟩)).1.faults, b1 (wrD (flD (wrL t.d (t.new.take t.new.length)).1).1 ((t.m.gen + 1).tmod 2) (ptM ⟨t.m.gen + 1, t.root⟩)).1.down] 2) ?_
                refine bstep (w_outE 6 [_, _, i6 (wrD (flD (wrL t.d (t.new.take t.new.length)).1).1 ((t.m.gen + 1).tmod 2) (ptM ⟨t.m.gen + 1, t.root⟩)).1.ops] (wrD (flD (wrL t.d (t.new.take t.new.length)).1).1 ((t.m.gen + 1).tmod 2) (ptM ⟨t.m.gen + 1, t.root⟩)).1.faults [b1 (wrD (flD (wrL t.d (t.new.take t.new.length)).1).1 ((t.m.gen + 1).tmod 2) (ptM ⟨t.m.gen + 1, t.root⟩)).1.down] 3) ?_
                repeat' ((conv => whnf); (first | refine k0 ?_ | refine jA fun _ => ?_ | refine jB fun _ => ?_ | refine kC (fun _ => ?_) fun _ => ?_ | (apply cx54; refine kl tx54 ?_) | (apply cx21; refine kl tx21 ?_) | (apply cx57; refine kl tx57 ?_) | (apply cx56; refine kl tx56 ?_) | (apply cx55; refine kl tx55 ?_) | (apply cx58; refine kl tx58 ?_) | (apply cx59; refine kl tx59 ?_) | refine jst ?_ | exact ⟨rfl, rfl⟩ | exact jV | fail))
                exact ⟨by rw [cmT_yes hA hB, cmW_2 hi.2 hF ‹_›, if_neg ‹_›]; rfl, rfl⟩
              · have hM : (wrD (flD (wrL t.d (t.new.take t.new.length)).1).1 ((t.m.gen + 1).tmod 2) (ptM ⟨t.m.gen + 1, t.root⟩)).2 = 0 := Decidable.byContradiction ‹_›
                conv => whnf
                refine bstep (w_outE 6 [] (flD (wrD (flD (wrL t.d (t.new.take t.new.length)).1).1 ((t.m.gen + 1).tmod 2) (ptM ⟨t.m.gen + 1, t.root⟩)).1).1.secs [slE true (flD (wrD (flD (wrL t.d (t.new.take t.new.length)).1).1 ((t.m.gen + 1).tmod 2) (ptM ⟨t.m.gen + 1, t.root⟩)).1).1.cache, i6 (flD (wrD (flD (wrL t.d (t.new.take t.new.length)).1).1 ((t.m.gen + 1).tmod 2) (ptM ⟨t.m.gen + 1, t.root⟩)).1).1.ops, slE true (flD (wrD (flD (wrL t.d (t.new.take t.new.length)).1).1 ((t.m.gen + 1).tmod 2) (ptM ⟨t.m.gen + 1, t.root⟩)).1).1.faults, b1 (flD (wrD (flD (wrL t.d (t.new.take t.new.length)).1).1 ((t.m.gen + 1).tmod 2) (ptM ⟨t.m.gen + 1, t.root⟩)).1).1.down] 1) ?_
                refine bstep (w_outE 6 [_] (flD (wrD (flD (wrL t.d (t.new.take t.new.length)).1).1 ((t.m.gen + 1).tmod 2) (ptM ⟨t.m.gen + 1, t.root⟩)).1).1.cache [i6 (flD (wrD (flD (wrL t.d (t.new.take t.new.length)).1).1 ((t.m.gen + 1).tmod 2) (ptM ⟨t.m.gen + 1, t.root⟩)).1).1.ops, slE true (flD (wrD (flD (wrL t.d (t.new.take t.new.length)).1).1 ((t.m.gen + 1).tmod 2) (ptM ⟨t.m.gen + 1, t.root⟩)).1).1.faults, b1 (flD (wrD (flD (wrL t.d (t.new.take t.new.length)).1).1 ((t.m.gen + 1).tmod 2) (ptM ⟨t.m.gen + 1, t.root⟩)).1).1.down] 2) ?_
                refine bstep (w_outE 6 [_, _, i6 (flD (wrD (flD (wrL t.d (t.new.take t.new.length)).1).1 ((t.m.gen + 1).tmod 2) (ptM ⟨t.m.gen + 1, t.root⟩)).1).1.ops] (flD (wrD (flD (wrL t.d (t.new.take t.new.length)).1).1 ((t.m.gen + 1).tmod 2) (ptM ⟨t.m.gen + 1, t.root⟩)).1).1.faults [b1 (flD (wrD (flD (wrL t.d (t.new.take t.new.length)).1).1 ((t.m.gen + 1).tmod 2) (ptM ⟨t.m.gen + 1, t.root⟩)).1).1.down] 3) ?_
                repeat' ((conv => whnf); (first | refine k0 ?_ | refine jA fun _ => ?_ | refine jB fun _ => ?_ | refine kC (fun _ => ?_) fun _ => ?_ | (apply cx54; refine kl tx54 ?_) | (apply cx21; refine kl tx21 ?_) | (apply cx57; refine kl tx57 ?_) | (apply cx56; refine kl tx56 ?_) | (apply cx55; refine kl tx55 ?_) | (apply cx58; refine kl tx58 ?_) | (apply cx59; refine kl tx59 ?_) | refine jst ?_ | exact ⟨rfl, rfl⟩ | exact jV | fail))
                exact ⟨by rw [cmT_yes hA hB, cmW_3 hi.2 hF hM, if_neg ‹_›]; rfl, rfl⟩
              · have hM : (wrD (flD (wrL t.d (t.new.take t.new.length)).1).1 ((t.m.gen + 1).tmod 2) (ptM ⟨t.m.gen + 1, t.root⟩)).2 = 0 := Decidable.byContradiction ‹¬ (wrD (flD (wrL t.d (t.new.take t.new.length)).1).1 ((t.m.gen + 1).tmod 2) (ptM ⟨t.m.gen + 1, t.root⟩)).2 ≠ 0›
                have hG : (flD (wrD (flD (wrL t.d (t.new.take t.new.length)).1).1 ((t.m.gen + 1).tmod 2) (ptM ⟨t.m.gen + 1, t.root⟩)).1).2 = 0 := Decidable.byContradiction ‹¬ (flD (wrD (flD (wrL t.d (t.new.take t.new.length)).1).1 ((t.m.gen + 1).tmod 2) (ptM ⟨t.m.gen + 1, t.root⟩)).1).2 ≠ 0›
                conv => whnf
                refine bstep (w_outE 6 [] (flD (wrD (flD (wrL t.d (t.new.take t.new.length)).1).1 ((t.m.gen + 1).tmod 2) (ptM ⟨t.m.gen + 1, t.root⟩)).1).1.secs [slE true (flD (wrD (flD (wrL t.d (t.new.take t.new.length)).1).1 ((t.m.gen + 1).tmod 2) (ptM ⟨t.m.gen + 1, t.root⟩)).1).1.cache, i6 (flD (wrD (flD (wrL t.d (t.new.take t.new.length)).1).1 ((t.m.gen + 1).tmod 2) (ptM ⟨t.m.gen + 1, t.root⟩)).1).1.ops, slE true (flD (wrD (flD (wrL t.d (t.new.take t.new.length)).1).1 ((t.m.gen + 1).tmod 2) (ptM ⟨t.m.gen + 1, t.root⟩)).1).1.faults, b1 (flD (wrD (flD (wrL t.d (t.new.take t.new.length)).1).1 ((t.m.gen + 1).tmod 2) (ptM ⟨t.m.gen + 1, t.root⟩)).1).1.down] 1) ?_
                refine bstep (w_outE 6 [_] (flD (wrD (flD (wrL t.d (t.new.take t.new.length)).1).1 ((t.m.gen + 1).tmod 2) (ptM ⟨t.m.gen + 1, t.root⟩)).1).1.cache [i6 (flD (wrD (flD (wrL t.d (t.new.take t.new.length)).1).1 ((t.m.gen + 1).tmod 2) (ptM ⟨t.m.gen + 1, t.root⟩)).1).1.ops, slE true (flD (wrD (flD (wrL t.d (t.new.take t.new.length)).1).1 ((t.m.gen + 1).tmod 2) (ptM ⟨t.m.gen + 1, t.root⟩)).1).1.faults, b1 (flD (wrD (flD (wrL t.d (t.new.take t.new.length)).1).1 ((t.m.gen + 1).tmod 2) (ptM ⟨t.m.gen + 1, t.root⟩)).1).1.down] 2) ?_
                refine bstep (w_outE 6 [_, _, i6 (flD (wrD (flD (wrL t.d (t.new.take t.new.length)).1).1 ((t.m.gen + 1).tmod 2) (ptM ⟨t.m.gen + 1, t.root⟩)).1).1.ops] (flD (wrD (flD (wrL t.d (t.new.take t.new.length)).1).1 ((t.m.gen + 1).tmod 2) (ptM ⟨t.m.gen + 1, t.root⟩)).1).1.faults [b1 (flD (wrD (flD (wrL t.d (t.new.take t.new.length)).1).1 ((t.m.gen + 1).tmod 2) (ptM ⟨t.m.gen + 1, t.root⟩)).1).1.down] 3) ?_
                repeat' ((conv => whnf); (first | refine k0 ?_ | refine jA fun _ => ?_ | refine jB fun _ => ?_ | refine kC (fun _ => ?_) fun _ => ?_ | (apply cx54; refine kl tx54 ?_) | (apply cx21; refine kl tx21 ?_) | (apply cx57; refine kl tx57 ?_) | (apply cx56; refine kl tx56 ?_) | (apply cx55; refine kl tx55 ?_) | (apply cx58; refine kl tx58 ?_) | (apply cx59; refine kl tx59 ?_) | refine jst ?_ | exact ⟨rfl, rfl⟩ | exact jV | fail))
                exact ⟨by rw [cmT_yes hA hB, cmW_3 hi.2 hF hM, if_pos hG]; rfl, rfl⟩
      · repeat' ((conv => whnf); (first | (apply cx54; refine kl (tx54 (d := t.d)) ?_) | refine k0 ?_ | refine jA fun _ => ?_ | refine jB fun _ => ?_ | refine kC (fun _ => ?_) fun _ => ?_ | (apply cx54; refine kl tx54 ?_) | (apply cx21; refine kl tx21 ?_) | (apply cx57; refine kl tx57 ?_) | (apply cx56; refine kl tx56 ?_) | (apply cx55; refine kl tx55 ?_) | (apply cx58; refine kl tx58 ?_) | (apply cx59; refine kl tx59 ?_) | refine jst ?_ | exact ⟨rfl, rfl⟩ | exact jV | fail))
        conv => whnf
        refine loopk (ι := Nat) (fun i => i ≤ t.new.length ∧ (wrL t.d (t.new.take i)).2 = 0) (fun i => t.new.length - i) (0) [1, 2, 4] (fun i => [(5, .v false [i6 i])]) [none, none, none, some fun _ => none, some fun _ => none, some fun _ => none, some fun i => (true, dskC true (wrL t.d (t.new.take i)).1)] ?_
        refine ⟨⟨by omega, by rw [wrL_z]⟩, ?_, fun i hi => ?_⟩
        · exact ((w_inE 6 3 [] t.d.secs [.ref 4 0 t.d.cache.length 2, i6 t.d.ops, .ref 5 0 t.d.faults.length 3, b1 t.d.down] t.d.secs.length 1 rfl).trans ((w_inE 6 4 [slE true t.d.secs] t.d.cache [i6 t.d.ops, .ref 5 0 t.d.faults.length 3, b1 t.d.down] t.d.cache.length 2 rfl).trans (w_inE 6 5 [slE true t.d.secs, slE true t.d.cache, i6 t.d.ops] t.d.faults [b1 t.d.down] t.d.faults.length 3 rfl))).trans (w_autoX [] (by (conv => whnf); exact And.intro (by kernel_rfl) (And.intro (by kernel_rfl) (by repeat' (first | (with_reducible exact rfl) | ((conv => whnf); first | exact trivial | exact (by rw [wrL_z]; exact ⟨rfl, clo_dsk, rfl⟩) | exact rfl | exact tvi (by first | omega | (dsimp only; omega) | (simp; done)) | exact tvr (by first | omega | (dsimp only; omega) | (simp; done) | (simp; omega)) | exact ⟨rfl, clo_i, by first | rfl | rw [List.take_length] | assumption⟩ | refine And.intro ?_ ?_))))))
        · repeat' ((conv => whnf); (first | refine k0 ?_ | (apply cx54; refine kl tx54 ?_) | (apply cx21; refine kl tx21 ?_) | (apply cx57; refine kl tx57 ?_) | (apply cx56; refine kl tx56 ?_) | (apply cx55; refine kl tx55 ?_) | (apply cx58; refine kl tx58 ?_) | (apply cx59; refine kl tx59 ?_) | refine jst ?_ | exact ⟨rfl, rfl⟩ | exact jV | fail))
          conv => whnf
          refine ⟨fun hlt => ?_, fun hge => ?_⟩
          · have hi2 : i < t.new.length := by omega
            have L := wrL_ok hT hA2 hi.1
            have hin := hT.n_in hi2
            have p1 : zD (wrL t.d (t.new.take i)).1 ≤ 1000000 := by have := L.ok.small; omega
            have p2 : (pgN t.new[i].x).length ≤ 500000 := Nat.le_trans (ptP_256 _ _) (by decide)
            have p3 : ∀ f ∈ (wrL t.d (t.new.take i)).1.faults, 0 ≤ f.cut := L.ok.cut'
            have p4 : 0 ≤ t.new[i].n ∧ t.new[i].n < (wrL t.d (t.new.take i)).1.secs.length := ⟨by omega, by rw [L.secs]; exact hin.2⟩
            have p5 : 0 ≤ (wrL t.d (t.new.take i)).1.ops := L.ok.ops.1
            have p6 : (wrL t.d (t.new.take i)).1.cache.length < 60 := by have := L.cache; have := hT.new_len; omega
            have p7 : ∀ w ∈ (wrL t.d (t.new.take i)).1.cache, 0 ≤ w.n ∧ w.n < (wrL t.d (t.new.take i)).1.secs.length := fun w hw => ⟨(L.ok.wri' w hw).1, (L.ok.wri' w hw).2.1⟩
            have p8 := zT_nod (t := t) (List.getElem_mem hi2)
            have p9 : zN t.new[i].x ≤ 2000000 := by omega
            have p10 : (if nodOk t.new[i].x = true then bdN t.new[i].x else []).length ≤ 10000000 := by
              have := bdN_len (x := t.new[i].x)
              split
              · omega
              · simp
            repeat' ((conv => whnf); (first | refine jA fun _ => ?_ | refine jB fun _ => ?_ | refine kC (fun _ => ?_) fun _ => ?_ | (apply cx54; refine kl tx54 ?_) | (apply cx21; refine kl tx21 ?_) | (apply cx57; refine kl tx57 ?_) | (apply cx56; refine kl tx56 ?_) | (apply cx55; refine kl tx55 ?_) | (apply cx58; refine kl tx58 ?_) | (apply cx59; refine kl tx59 ?_) | refine jst ?_ | exact ⟨rfl, rfl⟩ | exact jV | fail))
            conv => whnf
            refine k0 ?_
            repeat' ((conv => whnf); (first | (apply cx57; refine kl (tx57 (x := t.new[i].x)) ?_) | (apply cx56; refine kl (tx56 (k := 1) (b := if nodOk t.new[i].x = true then bdN t.new[i].x else [])) ?_) | (apply cx55; refine kl (tx55 (d := (wrL t.d (t.new.take i)).1) (n := t.new[i].n) (b := pgN t.new[i].x)) ?_) | refine jA fun _ => ?_ | refine jB fun _ => ?_ | refine kC (fun _ => ?_) fun _ => ?_ | (apply cx54; refine kl tx54 ?_) | (apply cx21; refine kl tx21 ?_) | (apply cx57; refine kl tx57 ?_) | (apply cx56; refine kl tx56 ?_) | (apply cx55; refine kl tx55 ?_) | (apply cx58; refine kl tx58 ?_) | (apply cx59; refine kl tx59 ?_) | refine jst ?_ | exact ⟨rfl, rfl⟩ | exact jV | fail))
            conv => whnf
            refine k0 ?_
            repeat' ((conv => whnf); (first | refine jA fun _ => ?_ | refine jB fun _ => ?_ | refine kC (fun _ => ?_) fun _ => ?_ | (apply cx54; refine kl tx54 ?_) | (apply cx21; refine kl tx21 ?_) | (apply cx57; refine kl tx57 ?_) | (apply cx56; refine kl tx56 ?_) | (apply cx55; refine kl tx55 ?_) | (apply cx58; refine kl tx58 ?_) | (apply cx59; refine kl tx59 ?_) | refine jst ?_ | exact ⟨rfl, rfl⟩ | exact jV | fail))
            conv => whnf
            refine k0 ?_
            repeat' ((conv => whnf); (first | refine jA fun _ => ?_ | refine jB fun _ => ?_ | refine kC (fun _ => ?_) fun _ => ?_ | (apply cx54; refine kl tx54 ?_) | (apply cx21; refine kl tx21 ?_) | (apply cx57; refine kl tx57 ?_) | (apply cx56; refine kl tx56 ?_) | (apply cx55; refine kl tx55 ?_) | (apply cx58; refine kl tx58 ?_) | (apply cx59; refine kl tx59 ?_) | refine jst ?_ | exact ⟨rfl, rfl⟩ | exact jV | fail))
            · conv => whnf
              refine bstep (w_outE 6 [] (wrD (wrL t.d (t.new.take i)).1 t.new[i].n (pgN t.new[i].x)).1.secs [slE true (wrD (wrL t.d (t.new.take i)).1 t.new[i].n (pgN t.new[i].x)).1.cache, i6 (wrD (wrL t.d (t.new.take i)).1 t.new[i].n (pgN t.new[i].x)).1.ops, slE true (wrD (wrL t.d (t.new.take i)).1 t.new[i].n (pgN t.new[i].x)).1.faults, b1 (wrD (wrL t.d (t.new.take i)).1 t.new[i].n (pgN t.new[i].x)).1.down] 1) ?_
              refine bstep (w_outE 6 [_] (wrD (wrL t.d (t.new.take i)).1 t.new[i].n (pgN t.new[i].x)).1.cache [i6 (wrD (wrL t.d (t.new.take i)).1 t.new[i].n (pgN t.new[i].x)).1.ops, slE true (wrD (wrL t.d (t.new.take i)).1 t.new[i].n (pgN t.new[i].x)).1.faults, b1 (wrD (wrL t.d (t.new.take i)).1 t.new[i].n (pgN t.new[i].x)).1.down] 2) ?_
              refine bstep (w_outE 6 [_, _, i6 (wrD (wrL t.d (t.new.take i)).1 t.new[i].n (pgN t.new[i].x)).1.ops] (wrD (wrL t.d (t.new.take i)).1 t.new[i].n (pgN t.new[i].x)).1.faults [b1 (wrD (wrL t.d (t.new.take i)).1 t.new[i].n (pgN t.new[i].x)).1.down] 3) ?_
              repeat' ((conv => whnf); (first | refine k0 ?_ | refine jA fun _ => ?_ | refine jB fun _ => ?_ | refine kC (fun _ => ?_) fun _ => ?_ | (apply cx54; refine kl tx54 ?_) | (apply cx21; refine kl tx21 ?_) | (apply cx57; refine kl tx57 ?_) | (apply cx56; refine kl tx56 ?_) | (apply cx55; refine kl tx55 ?_) | (apply cx58; refine kl tx58 ?_) | (apply cx59; refine kl tx59 ?_) | refine jst ?_ | exact ⟨rfl, rfl⟩ | exact jV | fail))
              exact ⟨by rw [cmT_yes hA hB, cmW_0 hi2 hi.2 ‹_›, if_neg ‹_›]; rfl, rfl⟩
            · have hW : (wrD (wrL t.d (t.new.take i)).1 t.new[i].n (pgN t.new[i].x)).2 = 0 := Decidable.byContradiction ‹_›
              have e := wrL_go hi2 hi.2
              repeat' ((conv => whnf); (first | refine k0 ?_ | refine jA fun _ => ?_ | refine jB fun _ => ?_ | refine kC (fun _ => ?_) fun _ => ?_ | (apply cx54; refine kl tx54 ?_) | (apply cx21; refine kl tx21 ?_) | (apply cx57; refine kl tx57 ?_) | (apply cx56; refine kl tx56 ?_) | (apply cx55; refine kl tx55 ?_) | (apply cx58; refine kl tx58 ?_) | (apply cx59; refine kl tx59 ?_) | refine jst ?_ | exact ⟨rfl, rfl⟩ | exact jV | fail))
              refine ⟨⟨i + 1, by omega, by rw [e]; exact hW⟩, by simp only; omega, ?_⟩
              exact w_autoX [] (by (conv => whnf); exact And.intro (by kernel_rfl) (And.intro (by kernel_rfl) (by repeat' (first | (with_reducible exact rfl) | ((conv => whnf); first | exact trivial | exact (by rw [e]; exact ⟨rfl, clo_dsk, rfl⟩) | exact rfl | exact tvi (by first | omega | (dsimp only; omega) | (simp; done)) | exact tvr (by first | omega | (dsimp only; omega) | (simp; done) | (simp; omega)) | exact ⟨rfl, clo_i, by first | rfl | rw [List.take_length] | assumption⟩ | refine And.intro ?_ ?_)))))
          · obtain rfl : i = t.new.length := by omega
            have L := wrL_ok hT hA2 hi.1
            have LF := (flD_ok L.ok).1
            have hg := hT.gen
            have hg2 := tm2 (n := t.m.gen + 1) (by omega)
            have hs4 := hT.d.secs
            have LM := wrD_ok (n := (t.m.gen + 1).tmod 2) (b := ptM ⟨t.m.gen + 1, t.root⟩) LF.ok (by have := LF.cache; have := L.cache; have := hT.new_len; omega) (by rw [LF.secs, L.secs]; omega) (ptM_256 _)
            have p1 : zD (wrL t.d (t.new.take t.new.length)).1 ≤ 1000000 := by have := L.ok.small; omega
            have p3 : ∀ f ∈ (wrL t.d (t.new.take t.new.length)).1.faults, 0 ≤ f.cut := L.ok.cut'
            have p5 : 0 ≤ (wrL t.d (t.new.take t.new.length)).1.ops := L.ok.ops.1
            have p7 : ∀ w ∈ (wrL t.d (t.new.take t.new.length)).1.cache, 0 ≤ w.n ∧ w.n < (wrL t.d (t.new.take t.new.length)).1.secs.length := fun w hw => ⟨(L.ok.wri' w hw).1, (L.ok.wri' w hw).2.1⟩
            have q1 : zD (flD (wrL t.d (t.new.take t.new.length)).1).1 ≤ 1000000 := by have := LF.ok.small; omega
            have q2 : (ptM ⟨t.m.gen + 1, t.root⟩).length ≤ 500000 := Nat.le_trans (ptM_256 _) (by decide)
            have q3 : ∀ f ∈ (flD (wrL t.d (t.new.take t.new.length)).1).1.faults, 0 ≤ f.cut := LF.ok.cut'
            have q4 : 0 ≤ (t.m.gen + 1).tmod 2 ∧ (t.m.gen + 1).tmod 2 < (flD (wrL t.d (t.new.take t.new.length)).1).1.secs.length := by rw [LF.secs, L.secs]; omega
            have q5 : 0 ≤ (flD (wrL t.d (t.new.take t.new.length)).1).1.ops := LF.ok.ops.1
            have q6 : (flD (wrL t.d (t.new.take t.new.length)).1).1.cache.length < 60 := by have := LF.cache; have := L.cache; have := hT.new_len; omega
            have q7 : ∀ w ∈ (flD (wrL t.d (t.new.take t.new.length)).1).1.cache, 0 ≤ w.n ∧ w.n < (flD (wrL t.d (t.new.take t.new.length)).1).1.secs.length := fun w hw => ⟨(LF.ok.wri' w hw).1, (LF.ok.wri' w hw).2.1⟩
            have r1 : zD (wrD (flD (wrL t.d (t.new.take t.new.length)).1).1 ((t.m.gen + 1).tmod 2) (ptM ⟨t.m.gen + 1, t.root⟩)).1 ≤ 1000000 := by have := LM.ok.small; omega
            have r3 : ∀ f ∈ (wrD (flD (wrL t.d (t.new.take t.new.length)).1).1 ((t.m.gen + 1).tmod 2) (ptM ⟨t.m.gen + 1, t.root⟩)).1.faults, 0 ≤ f.cut := LM.ok.cut'
            have r5 : 0 ≤ (wrD (flD (wrL t.d (t.new.take t.new.length)).1).1 ((t.m.gen + 1).tmod 2) (ptM ⟨t.m.gen + 1, t.root⟩)).1.ops := LM.ok.ops.1
            have r7 : ∀ w ∈ (wrD (flD (wrL t.d (t.new.take t.new.length)).1).1 ((t.m.gen + 1).tmod 2) (ptM ⟨t.m.gen + 1, t.root⟩)).1.cache, 0 ≤ w.n ∧ w.n < (wrD (flD (wrL t.d (t.new.take t.new.length)).1).1 ((t.m.gen + 1).tmod 2) (ptM ⟨t.m.gen + 1, t.root⟩)).1.secs.length := fun w hw => ⟨(LM.ok.wri' w hw).1, (LM.ok.wri' w hw).2.1⟩
            repeat' ((conv => whnf); (first | refine jA fun _ => ?_ | refine jB fun _ => ?_ | refine kC (fun _ => ?_) fun _ => ?_ | (apply cx54; refine kl tx54 ?_) | (apply cx21; refine kl tx21 ?_) | (apply cx57; refine kl tx57 ?_) | (apply cx56; refine kl tx56 ?_) | (apply cx55; refine kl tx55 ?_) | (apply cx58; refine kl tx58 ?_) | (apply cx59; refine kl tx59 ?_) | refine jst ?_ | exact ⟨rfl, rfl⟩ | exact jV | fail))
            conv => whnf
            refine k0 ?_
            repeat' ((conv => whnf); (first | refine jA fun _ => ?_ | refine jB fun _ => ?_ | refine kC (fun _ => ?_) fun _ => ?_ | (apply cx54; refine kl tx54 ?_) | (apply cx21; refine kl tx21 ?_) | (apply cx57; refine kl tx57 ?_) | (apply cx56; refine kl tx56 ?_) | (apply cx55; refine kl tx55 ?_) | (apply cx58; refine kl tx58 ?_) | (apply cx59; refine kl tx59 ?_) | refine jst ?_ | exact ⟨rfl, rfl⟩ | exact jV | fail))
            conv => whnf
            refine k0 ?_
            repeat' ((conv => whnf); (first | (apply cx58; refine kl (tx58 (d := (wrL t.d (t.new.take t.new.length)).1)) ?_) | refine jA fun _ => ?_ | refine jB fun _ => ?_ | refine kC (fun _ => ?_) fun _ => ?_ | (apply cx54; refine kl tx54 ?_) | (apply cx21; refine kl tx21 ?_) | (apply cx57; refine kl tx57 ?_) | (apply cx56; refine kl tx56 ?_) | (apply cx55; refine kl tx55 ?_) | (apply cx58; refine kl tx58 ?_) | (apply cx59; refine kl tx59 ?_) | refine jst ?_ | exact ⟨rfl, rfl⟩ | exact jV | fail))
            · conv => whnf
              refine bstep (w_outE 6 [] (flD (wrL t.d (t.new.take t.new.length)).1).1.secs [slE true (flD (wrL t.d (t.new.take t.new.length)).1).1.cache, i6 (flD (wrL t.d (t.new.take t.new.length)).1).1.ops, slE true (flD (wrL t.d (t.new.take t.new.length)).1).1.faults, b1 (flD (wrL t.d (t.new.take t.new.length)).1).1.down] 1) ?_
              refine bstep (w_outE 6 [_] (flD (wrL t.d (t.new.take t.new.length)).1).1.cache [i6 (flD (wrL t.d (t.new.take t.new.length)).1).1.ops, slE true (flD (wrL t.d (t.new.take t.new.length)).1).1.faults, b1 (flD (wrL t.d (t.new.take t.new.length)).1).1.down] 2) ?_
              refine bstep (w_outE 6 [_, _, i6 (flD (wrL t.d (t.new.take t.new.length)).1).1.ops] (flD (wrL t.d (t.new.take t.new.length)).1).1.faults [b1 (flD (wrL t.d (t.new.take t.new.length)).1).1.down] 3) ?_
              repeat' ((conv => whnf); (first | refine k0 ?_ | refine jA fun _ => ?_ | refine jB fun _ => ?_ | refine kC (fun _ => ?_) fun _ => ?_ | (apply cx54; refine kl tx54 ?_) | (apply cx21; refine kl tx21 ?_) | (apply cx57; refine kl tx57 ?_) | (apply cx56; refine kl tx56 ?_) | (apply cx55; refine kl tx55 ?_) | (apply cx58; refine kl tx58 ?_) | (apply cx59; refine kl tx59 ?_) | refine jst ?_ | exact ⟨rfl, rfl⟩ | exact jV | fail))
              exact ⟨by rw [cmT_yes hA hB, cmW_1 hi.2 ‹_›, if_neg ‹_›]; rfl, rfl⟩
            · have hF : (flD (wrL t.d (t.new.take t.new.length)).1).2 = 0 := Decidable.byContradiction ‹_›
              conv => whnf
              refine k0 ?_
              repeat' ((conv => whnf); (first | refine jA fun _ => ?_ | refine jB fun _ => ?_ | refine kC (fun _ => ?_) fun _ => ?_ | (apply cx54; refine kl tx54 ?_) | (apply cx21; refine kl tx21 ?_) | (apply cx57; refine kl tx57 ?_) | (apply cx56; refine kl tx56 ?_) | (apply cx55; refine kl tx55 ?_) | (apply cx58; refine kl tx58 ?_) | (apply cx59; refine kl tx59 ?_) | refine jst ?_ | exact ⟨rfl, rfl⟩ | exact jV | fail))
              conv => whnf
              refine k0 ?_
              repeat' ((conv => whnf); (first | refine jA fun _ => ?_ | refine jB fun _ => ?_ | refine kC (fun _ => ?_) fun _ => ?_ | (apply cx54; refine kl tx54 ?_) | (apply cx21; refine kl tx21 ?_) | (apply cx57; refine kl tx57 ?_) | (apply cx56; refine kl tx56 ?_) | (apply cx55; refine kl tx55 ?_) | (apply cx58; refine kl tx58 ?_) | (apply cx59; refine kl tx59 ?_) | refine jst ?_ | exact ⟨rfl, rfl⟩ | exact jV | fail))
              conv => whnf
              refine k0 ?_
              repeat' ((conv => whnf); (first | (apply cx59; refine kl (tx59 (m := ⟨t.m.gen + 1, t.root⟩)) ?_) | (apply cx55; refine kl (tx55 (d := (flD (wrL t.d (t.new.take t.new.length)).1).1) (n := (t.m.gen + 1).tmod 2) (b := ptM ⟨t.m.gen + 1, t.root⟩)) ?_) | (apply cx58; refine kl (tx58 (d := (wrD (flD (wrL t.d (t.new.take t.new.length)).1).1 ((t.m.gen + 1).tmod 2) (ptM ⟨t.m.gen + 1, t.root⟩)).1)) ?_) | refine And.intro (by decide) (Exists.intro _ (And.intro rfl ?_)) | refine jA fun _ => ?_ | refine jB fun _ => ?_ | refine kC (fun _ => ?_) fun _ => ?_ | (apply cx54; refine kl tx54 ?_) | (apply cx21; refine kl tx21 ?_) | (apply cx57; refine kl tx57 ?_) | (apply cx56; refine kl tx56 ?_) | (apply cx55; refine kl tx55 ?_) | (apply cx58; refine kl tx58 ?_) | (apply cx59; refine kl tx59 ?_) | refine jst ?_ | exact ⟨rfl, rfl⟩ | exact jV | fail))
              · conv => whnf
                refine bstep (w_outE 6 [] (wrD (flD (wrL t.d (t.new.take t.new.length)).1).1 ((t.m.gen + 1).tmod 2) (ptM ⟨t.m.gen + 1, t.root⟩)).1.secs [slE true (wrD (flD (wrL t.d (t.new.take t.new.length)).1).1 ((t.m.gen + 1).tmod 2) (ptM ⟨t.m.gen + 1, t.root⟩)).1.cache, i6 (wrD (flD (wrL t.d (t.new.take t.new.length)).1).1 ((t.m.gen + 1).tmod 2) (ptM ⟨t.m.gen + 1, t.root⟩)).1.ops, slE true (wrD (flD (wrL t.d (t.new.take t.new.length)).1).1 ((t.m.gen + 1).tmod 2) (ptM ⟨t.m.gen + 1, t.root⟩)).1.faults, b1 (wrD (flD (wrL t.d (t.new.take t.new.length)).1).1 ((t.m.gen + 1).tmod 2) (ptM ⟨t.m.gen + 1, t.root⟩)).1.down] 1) ?_
                refine bstep (w_outE 6 [_] (wrD (flD (wrL t.d (t.new.take t.new.length)).1).1 ((t.m.gen + 1).tmod 2) (ptM ⟨t.m.gen + 1, t.root⟩)).1.cache [i6 (wrD (flD (wrL t.d (t.new.take t.new.length)).1).1 ((t.m.gen + 1).tmod 2) (ptM ⟨t.m.gen + 1, t.root⟩)).1.ops, slE true (wrD (flD (wrL t.d (t.new.take t.new.length)).1).1 ((t.m.gen + 1).tmod 2) (ptM ⟨t.m.gen + 1, t.root⟩)).1.faults, b1 (wrD (flD (wrL t.d (t.new.take t.new.length)).1).1 ((t.m.gen + 1).tmod 2) (ptM ⟨t.m.gen + 1, t.root⟩)).1.down] 2) ?_
                refine bstep (w_outE 6 [_, _, i6 (wrD (flD (wrL t.d (t.new.take t.new.length)).1).1 ((t.m.gen + 1).tmod 2) (ptM ⟨t.m.gen + 1, t.root⟩)).1.ops] (wrD (flD (wrL t.d (t.new.take t.new.length)).1).1 ((t.m.gen + 1).tmod 2) (ptM ⟨t.m.gen + 1, t.root⟩)).1.faults [b1 (wrD (flD (wrL t.d (t.new.take t.new.length)).1).1 ((t.m.gen + 1).tmod 2) (ptM ⟨t.m.gen + 1, t.root⟩)).1.down] 3) ?_
                repeat' ((conv => whnf); (first | refine k0 ?_ | refine jA fun _ => ?_ | refine jB fun _ => ?_ | refine kC (fun _ => ?_) fun _ => ?_ | (apply cx54; refine kl tx54 ?_) | (apply cx21; refine kl tx21 ?_) | (apply cx57; refine kl tx57 ?_) | (apply cx56; refine kl tx56 ?_) | (apply cx55; refine kl tx55 ?_) | (apply cx58; refine kl tx58 ?_) | (apply cx59; refine kl tx59 ?_) | refine jst ?_ | exact ⟨rfl, rfl⟩ | exact jV | fail))
                exact ⟨by rw [cmT_yes hA hB, cmW_2 hi.2 hF ‹_›, if_neg ‹_›]; rfl, rfl⟩
              · have hM : (wrD (flD (wrL t.d (t.new.take t.new.length)).1).1 ((t.m.gen + 1).tmod 2) (ptM ⟨t.m.gen + 1, t.root⟩)).2 = 0 := Decidable.byContradiction ‹_›
                conv => whnf
                refine bstep (w_outE 6 [] (flD (wrD (flD (wrL t.d (t.new.take t.new.length)).1).1 ((t.m.gen + 1).tmod 2) (ptM ⟨t.m.gen + 1, t.root⟩)).1).1.secs [slE true (flD (wrD (flD (wrL t.d (t.new.take t.new.length)).1).1 ((t.m.gen + 1).tmod 2) (ptM ⟨t.m.gen + 1, t.root⟩)).1).1.cache, i6 (flD (wrD (flD (wrL t.d (t.new.take t.new.length)).1).1 ((t.m.gen + 1).tmod 2) (ptM ⟨t.m.gen + 1, t.root⟩)).1).1.ops, slE true (flD (wrD (flD (wrL t.d (t.new.take t.new.length)).1).1 ((t.m.gen + 1).tmod 2) (ptM ⟨t.m.gen + 1, t.root⟩)).1).1.faults, b1 (flD (wrD (flD (wrL t.d (t.new.take t.new.length)).1).1 ((t.m.gen + 1).tmod 2) (ptM ⟨t.m.gen + 1, t.root⟩)).1).1.down] 1) ?_
                refine bstep (w_outE 6 [_] (flD (wrD (flD (wrL t.d (t.new.take t.new.length)).1).1 ((t.m.gen + 1).tmod 2) (ptM ⟨t.m.gen + 1, t.root⟩)).1).1.cache [i6 (flD (wrD (flD (wrL t.d (t.new.take t.new.length)).1).1 ((t.m.gen + 1).tmod 2) (ptM ⟨t.m.gen + 1, t.root⟩)).1).1.ops, slE true (flD (wrD (flD (wrL t.d (t.new.take t.new.length)).1).1 ((t.m.gen + 1).tmod 2) (ptM ⟨t.m.gen + 1, t.root⟩)).1).1.faults, b1 (flD (wrD (flD (wrL t.d (t.new.take t.new.length)).1).1 ((t.m.gen + 1).tmod 2) (ptM ⟨t.m.gen + 1, t.root⟩)).1).1.down] 2) ?_
                refine bstep (w_outE 6 [_, _, i6 (flD (wrD (flD (wrL t.d (t.new.take t.new.length)).1).1 ((t.m.gen + 1).tmod 2) (ptM ⟨t.m.gen + 1, t.root⟩)).1).1.ops] (flD (wrD (flD (wrL t.d (t.new.take t.new.length)).1).1 ((t.m.gen + 1).tmod 2) (ptM ⟨t.m.gen + 1, t.root⟩)).1).1.faults [b1 (flD (wrD (flD (wrL t.d (t.new.take t.new.length)).1).1 ((t.m.gen + 1).tmod 2) (ptM ⟨t.m.gen + 1, t.root⟩)).1).1.down] 3) ?_
                repeat' ((conv => whnf); (first | refine k0 ?_ | refine jA fun _ => ?_ | refine jB fun _ => ?_ | refine kC (fun _ => ?_) fun _ => ?_ | (apply cx54; refine kl tx54 ?_) | (apply cx21; refine kl tx21 ?_) | (apply cx57; refine kl tx57 ?_) | (apply cx56; refine kl tx56 ?_) | (apply cx55; refine kl tx55 ?_) | (apply cx58; refine kl tx58 ?_) | (apply cx59; refine kl tx59 ?_) | refine jst ?_ | exact ⟨rfl, rfl⟩ | exact jV | fail))
                exact ⟨by rw [cmT_yes hA hB, cmW_3 hi.2 hF hM, if_neg ‹_›]; rfl, rfl⟩
              · have hM : (wrD (flD (wrL t.d (t.new.take t.new.length)).1).1 ((t.m.gen + 1).tmod 2) (ptM ⟨t.m.gen + 1, t.root⟩)).2 = 0 := Decidable.byContradiction ‹¬ (wrD (flD (wrL t.d (t.new.take t.new.length)).1).1 ((t.m.gen + 1).tmod 2) (ptM ⟨t.m.gen + 1, t.root⟩)).2 ≠ 0›
                have hG : (flD (wrD (flD (wrL t.d (t.new.take t.new.length)).1).1 ((t.m.gen + 1).tmod 2) (ptM ⟨t.m.gen + 1, t.root⟩)).1).2 = 0 := Decidable.byContradiction ‹¬ (flD (wrD (flD (wrL t.d (t.new.take t.new.length)).1).1 ((t.m.gen + 1).tmod 2) (ptM ⟨t.m.gen + 1, t.root⟩)).1).2 ≠ 0›
                conv => whnf
                refine bstep (w_outE 6 [] (flD (wrD (flD (wrL t.d (t.new.take t.new.length)).1).1 ((t.m.gen + 1).tmod 2) (ptM ⟨t.m.gen + 1, t.root⟩)).1).1.secs [slE true (flD (wrD (flD (wrL t.d (t.new.take t.new.length)).1).1 ((t.m.gen + 1).tmod 2) (ptM ⟨t.m.gen + 1, t.root⟩)).1).1.cache, i6 (flD (wrD (flD (wrL t.d (t.new.take t.new.length)).1).1 ((t.m.gen + 1).tmod 2) (ptM ⟨t.m.gen + 1, t.root⟩)).1).1.ops, slE true (flD (wrD (flD (wrL t.d (t.new.take t.new.length)).1).1 ((t.m.gen + 1).tmod 2) (ptM ⟨t.m.gen + 1, t.root⟩)).1).1.faults, b1 (flD (wrD (flD (wrL t.d (t.new.take t.new.length)).1).1 ((t.m.gen + 1).tmod 2) (ptM ⟨t.m.gen + 1, t.root⟩)).1).1.down] 1) ?_
                refine bstep (w_outE 6 [_] (flD (wrD (flD (wrL t.d (t.new.take t.new.length)).1).1 ((t.m.gen + 1).tmod 2) (ptM ⟨t.m.gen + 1, t.root⟩)).1).1.cache [i6 (flD (wrD (flD (wrL t.d (t.new.take t.new.length)).1).1 ((t.m.gen + 1).tmod 2) (ptM ⟨t.m.gen + 1, t.root⟩)).1).1.ops, slE true (flD (wrD (flD (wrL t.d (t.new.take t.new.length)).1).1 ((t.m.gen + 1).tmod 2) (ptM ⟨t.m.gen + 1, t.root⟩)).1).1.faults, b1 (flD (wrD (flD (wrL t.d (t.new.take t.new.length)).1).1 ((t.m.gen + 1).tmod 2) (ptM ⟨t.m.gen + 1, t.root⟩)).1).1.down] 2) ?_
                refine bstep (w_outE 6 [_, _, i6 (flD (wrD (flD (wrL t.d (t.new.take t.new.length)).1).1 ((t.m.gen + 1).tmod 2) (ptM ⟨t.m.gen + 1, t.root⟩)).1).1.ops] (flD (wrD (flD (wrL t.d (t.new.take t.new.length)).1).1 ((t.m.gen + 1).tmod 2) (ptM ⟨t.m.gen + 1, t.root⟩)).1).1.faults [b1 (flD (wrD (flD (wrL t.d (t.new.take t.new.length)).1).1 ((t.m.gen + 1).tmod 2) (ptM ⟨t.m.gen + 1, t.root⟩)).1).1.down] 3) ?_
                repeat' ((conv => whnf); (first | refine k0 ?_ | refine jA fun _ => ?_ | refine jB fun _ => ?_ | refine kC (fun _ => ?_) fun _ => ?_ | (apply cx54; refine kl tx54 ?_) | (apply cx21; refine kl tx21 ?_) | (apply cx57; refine kl tx57 ?_) | (apply cx56; refine kl tx56 ?_) | (apply cx55; refine kl tx55 ?_) | (apply cx58; refine kl tx58 ?_) | (apply cx59; refine kl tx59 ?_) | refine jst ?_ | exact ⟨rfl, rfl⟩ | exact jV | fail))
                exact ⟨by rw [cmT_yes hA hB, cmW_3 hi.2 hF hM, if_pos hG]; rfl, rfl⟩
  · by_cases c1 : txOk t = true
    · by_cases c2 : t.d.cache.length = 0
      · have c3 : ¬ t.m.gen < 1000000 := fun h => hA ⟨c1, c2, h⟩
        repeat' ((conv => whnf); (first | (apply cx54; refine kl (tx54 (d := t.d)) ?_) | refine k0 ?_ | refine jA fun _ => ?_ | refine jB fun _ => ?_ | refine kC (fun _ => ?_) fun _ => ?_ | (apply cx54; refine kl tx54 ?_) | (apply cx21; refine kl tx21 ?_) | (apply cx57; refine kl tx57 ?_) | (apply cx56; refine kl tx56 ?_) | (apply cx55; refine kl tx55 ?_) | (apply cx58; refine kl tx58 ?_) | (apply cx59; refine kl tx59 ?_) | refine jst ?_ | exact ⟨rfl, rfl⟩ | exact jV | fail))
        exact ⟨by rw [cmT_no hA]; rfl, rfl⟩
      · repeat' ((conv => whnf); (first | (apply cx54; refine kl (tx54 (d := t.d)) ?_) | refine k0 ?_ | refine jA fun _ => ?_ | refine jB fun _ => ?_ | refine kC (fun _ => ?_) fun _ => ?_ | (apply cx54; refine kl tx54 ?_) | (apply cx21; refine kl tx21 ?_) | (apply cx57; refine kl tx57 ?_) | (apply cx56; refine kl tx56 ?_) | (apply cx55; refine kl tx55 ?_) | (apply cx58; refine kl tx58 ?_) | (apply cx59; refine kl tx59 ?_) | refine jst ?_ | exact ⟨rfl, rfl⟩ | exact jV | fail))
        exact ⟨by rw [cmT_no hA]; rfl, rfl⟩
    · have c4 : txOk t = false := by cases h : txOk t with
        | true => exact absurd h c1
        | false => rfl
      repeat' ((conv => whnf); (first | (apply cx54; refine kl (tx54 (d := t.d)) ?_) | refine k0 ?_ | refine jA fun _ => ?_ | refine jB fun _ => ?_ | refine kC (fun _ => ?_) fun _ => ?_ | (apply cx54; refine kl tx54 ?_) | (apply cx21; refine kl tx21 ?_) | (apply cx57; refine kl tx57 ?_) | (apply cx56; refine kl tx56 ?_) | (apply cx55; refine kl tx55 ?_) | (apply cx58; refine kl tx58 ?_) | (apply cx59; refine kl tx59 ?_) | refine jst ?_ | exact ⟨rfl, rfl⟩ | exact jV | fail))
      exact ⟨by rw [cmT_no hA]; rfl, rfl⟩

theorem cx23 {P : Program} {X : FuncId → List Arg → List (Bool × List Cell) → List (Option (List Cell)) → Prop} {a : List Arg} {Q : List (Bool × List Cell) → List (Option (List Cell)) → Prop} (h : ∃ b vals outs, a = b ∧ D P X (.call 23 b vals outs) ∧ Q vals outs) : CallS P X 23 a Q := ⟨h⟩

end Go.Proofs.YtkggnekdjdnhiaaGreat
