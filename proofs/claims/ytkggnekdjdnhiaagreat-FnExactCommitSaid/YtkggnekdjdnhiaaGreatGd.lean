/- Functions of the program, each with what it gives back. -/
import Derived.Test.YtkggnekdjdnhiaaGreatKe
import Derived.Test.YtkggnekdjdnhiaaGreatChecked
import Derived.IntWalk
import Derived.Test.YtkggnekdjdnhiaaGreatGb
import Derived.Test.YtkggnekdjdnhiaaGreatGc
namespace Go.Proofs.YtkggnekdjdnhiaaGreat
open Go Go.RowKit Go.IntWalk
open Enc (sz cs)
attribute [local irreducible] IntKind.wrap

attribute [local irreducible] gU gT gS gP gM ptP ptM ptS crcN rdS bestM ndA txOk wrD flD losD wrL cmT

set_option maxHeartbeats 2000000 in
set_option maxRecDepth 100000 in
theorem tx24 {t : Txn} (ht : zT t ≤ 1100000 := by first | assumption | omega | (simp; done) | (simp; omega)) : T 24 [.val true (txnC false t)] [(true, dskC true (cmT t).1), vI (cmT t).2] [none] := by
  refine w_call md [[], []] Tryz.func24 rfl ?_
  have hzd := zT_d (t := t)
  by_cases hA : txOk t = true ∧ t.d.cache.length = 0 ∧ t.m.gen < 1000000
  · obtain ⟨hA1, hA2, hA3⟩ := id hA
    have hT := txOk_iff.1 hA1
    have hnl := hT.new_len
    by_cases hB : t.new.length = 0 ∧ t.root = t.m.root
    · obtain ⟨hB1, hB2⟩ := id hB
      repeat' ((conv => whnf); (first | (apply cx60; refine kl (tx60 (d := t.d)) ?_) | refine k0 ?_ | refine jA fun _ => ?_ | refine jB fun _ => ?_ | refine kC (fun _ => ?_) fun _ => ?_ | (apply cx60; refine kl tx60 ?_) | (apply cx22; refine kl tx22 ?_) | (apply cx63; refine kl tx63 ?_) | (apply cx62; refine kl tx62 ?_) | (apply cx61; refine kl tx61 ?_) | (apply cx64; refine kl tx64 ?_) | (apply cx65; refine kl tx65 ?_) | refine jst ?_ | exact ⟨rfl, rfl⟩ | exact jV | fail))
      exact ⟨by rw [cmT_eq hA hB]; rfl, rfl⟩
    · by_cases hB1 : t.new.length = 0
      · have hB2 : ¬ t.root = t.m.root := fun e => hB ⟨hB1, e⟩
        repeat' ((conv => whnf); (first | (apply cx60; refine kl (tx60 (d := t.d)) ?_) | refine k0 ?_ | refine jA fun _ => ?_ | refine jB fun _ => ?_ | refine kC (fun _ => ?_) fun _ => ?_ | (apply cx60; refine kl tx60 ?_) | (apply cx22; refine kl tx22 ?_) | (apply cx63; refine kl tx63 ?_) | (apply cx62; refine kl tx62 ?_) | (apply cx61; refine kl tx61 ?_) | (apply cx64; refine kl tx64 ?_) | (apply cx65; refine kl tx65 ?_) | refine jst ?_ | exact ⟨rfl, rfl⟩ | exact jV | fail))
        conv => whnf
        refine loopk (ι := Nat) (fun i => i ≤ t.new.length) (fun i => t.new.length - i) (0) [1, 2, 4, 43, 44] (fun i => [(5, .v false [i6 (wrL t.d (t.new.take i)).2]), (45, .v false [i6 i])]) [none, none, none, some fun _ => none, some fun _ => none, some fun _ => none, some fun i => (true, dskC true (wrL t.d (t.new.take i)).1)] ?_
        refine ⟨by omega, ?_, fun i hi => ?_⟩
        · exact ((w_inE 6 3 [] t.d.secs [.ref 4 0 t.d.cache.length 2, i6 t.d.ops, .ref 5 0 t.d.faults.length 3, b1 t.d.down] t.d.secs.length 1 rfl).trans ((w_inE 6 4 [slE true t.d.secs] t.d.cache [i6 t.d.ops, .ref 5 0 t.d.faults.length 3, b1 t.d.down] t.d.cache.length 2 rfl).trans (w_inE 6 5 [slE true t.d.secs, slE true t.d.cache, i6 t.d.ops] t.d.faults [b1 t.d.down] t.d.faults.length 3 rfl))).trans (w_autoX [] (by (conv => whnf); exact And.intro (by kernel_rfl) (And.intro (by kernel_rfl) (by repeat' (first | (with_reducible exact rfl) | ((conv => whnf); first | exact trivial | exact (by rw [wrL_z]; exact ⟨rfl, clo_dsk, rfl⟩) | exact tvi (by rw [wrL_z]) | exact rfl | exact tvi (by first | omega | (dsimp only; omega) | (simp; done)) | exact tvr (by first | omega | (dsimp only; omega) | (simp; done) | (simp; omega)) | exact ⟨rfl, clo_i, by first | rfl | rw [List.take_length] | assumption⟩ | refine And.intro ?_ ?_))))))
        · refine ⟨fun hlt => ?_, fun hge => ?_⟩
          · exact absurd hlt (by omega)
          · obtain rfl : i = t.new.length := by omega
            have L := wrL_ok hT hA2 hi
            have hg := hT.gen
            by_cases hc : (wrL t.d (t.new.take t.new.length)).2 = 0
            · have LF := (flD_ok L.ok).1
              have hg2 := tm2 (n := t.m.gen + 1) (by omega)
              have hs4 := hT.d.secs
              have c1 : (flD (wrL t.d (t.new.take t.new.length)).1).1.cache.length < 60 := by have := LF.cache; have := L.cache; have := hT.new_len; omega
              have c2 : 0 ≤ (t.m.gen + 1).tmod 2 ∧ (t.m.gen + 1).tmod 2 < (flD (wrL t.d (t.new.take t.new.length)).1).1.secs.length := by rw [LF.secs, L.secs]; omega
              have LM := wrD_ok (n := (t.m.gen + 1).tmod 2) (b := ptM ⟨t.m.gen + 1, t.root⟩) LF.ok c1 c2 (ptM_256 _)
              have hS1 : T 64 [.val true (dskC false (wrL t.d (t.new.take t.new.length)).1)] [(true, dskC true (flD (wrL t.d (t.new.take t.new.length)).1).1), vI (flD (wrL t.d (t.new.take t.new.length)).1).2] [none] := by
                have h := tx64 (d := (wrL t.d (t.new.take t.new.length)).1) (by have := L.ok.small; omega)
                rwa [fsD_y L.ok] at h
              have hS2 : T 61 [.val true (dskC false (flD (wrL t.d (t.new.take t.new.length)).1).1), aI ((t.m.gen + 1).tmod 2), aE (ptM ⟨t.m.gen + 1, t.root⟩)] [(true, dskC true (wrD (flD (wrL t.d (t.new.take t.new.length)).1).1 ((t.m.gen + 1).tmod 2) (ptM ⟨t.m.gen + 1, t.root⟩)).1), vI (wrD (flD (wrL t.d (t.new.take t.new.length)).1).1 ((t.m.gen + 1).tmod 2) (ptM ⟨t.m.gen + 1, t.root⟩)).2] [none, none, none] := by
                have h := tx61 (d := (flD (wrL t.d (t.new.take t.new.length)).1).1) (n := (t.m.gen + 1).tmod 2) (b := ptM ⟨t.m.gen + 1, t.root⟩) (by have := LF.ok.small; omega) (by have := ptM_256 ⟨t.m.gen + 1, t.root⟩; omega)
                rwa [wsD_y ⟨LF.ok, c2.1, c2.2, ptM_256 _, c1⟩] at h
              have hS3 : T 64 [.val true (dskC false (wrD (flD (wrL t.d (t.new.take t.new.length)).1).1 ((t.m.gen + 1).tmod 2) (ptM ⟨t.m.gen + 1, t.root⟩)).1)] [(true, dskC true (flD (wrD (flD (wrL t.d (t.new.take t.new.length)).1).1 ((t.m.gen + 1).tmod 2) (ptM ⟨t.m.gen + 1, t.root⟩)).1).1), vI (flD (wrD (flD (wrL t.d (t.new.take t.new.length)).1).1 ((t.m.gen + 1).tmod 2) (ptM ⟨t.m.gen + 1, t.root⟩)).1).2] [none] := by
                have h := tx64 (d := (wrD (flD (wrL t.d (t.new.take t.new.length)).1).1 ((t.m.gen + 1).tmod 2) (ptM ⟨t.m.gen + 1, t.root⟩)).1) (by have := LM.ok.small; omega)
                rwa [fsD_y LM.ok] at h
              repeat' ((conv => whnf); (first | refine jA fun _ => ?_ | refine jB fun _ => ?_ | refine kC (fun _ => ?_) fun _ => ?_ | (apply cx60; refine kl tx60 ?_) | (apply cx22; refine kl tx22 ?_) | (apply cx63; refine kl tx63 ?_) | (apply cx62; refine kl tx62 ?_) | (apply cx61; refine kl tx61 ?_) | (apply cx64; refine kl tx64 ?_) | (apply cx65; refine kl tx65 ?_) | refine jst ?_ | exact ⟨rfl, rfl⟩ | exact jV | fail))
              conv => whnf
              refine bstep (w_outE 6 [] (wrL t.d (t.new.take t.new.length)).1.secs [slE true (wrL t.d (t.new.take t.new.length)).1.cache, i6 (wrL t.d (t.new.take t.new.length)).1.ops, slE true (wrL t.d (t.new.take t.new.length)).1.faults, b1 (wrL t.d (t.new.take t.new.length)).1.down] 1) ?_
              refine bstep (w_outE 6 [_] (wrL t.d (t.new.take t.new.length)).1.cache [i6 (wrL t.d (t.new.take t.new.length)).1.ops, slE true (wrL t.d (t.new.take t.new.length)).1.faults, b1 (wrL t.d (t.new.take t.new.length)).1.down] 2) ?_
              refine bstep (w_outE 6 [_, _, i6 (wrL t.d (t.new.take t.new.length)).1.ops] (wrL t.d (t.new.take t.new.length)).1.faults [b1 (wrL t.d (t.new.take t.new.length)).1.down] 3) ?_
              repeat' ((conv => whnf); (first | (apply cx65; refine kl (tx65 (m := ⟨t.m.gen + 1, t.root⟩)) ?_) | (apply cx64; refine kl (hS1) ?_) | (apply cx61; refine kl (hS2) ?_) | (apply cx64; refine kl (hS3) ?_) | refine And.intro (by decide) (Exists.intro _ (And.intro rfl ?_)) | refine k0 ?_ | refine jA fun _ => ?_ | refine jB fun _ => ?_ | refine kC (fun _ => ?_) fun _ => ?_ | (apply cx60; refine kl tx60 ?_) | (apply cx22; refine kl tx22 ?_) | (apply cx63; refine kl tx63 ?_) | (apply cx62; refine kl tx62 ?_) | (apply cx61; refine kl tx61 ?_) | (apply cx64; refine kl tx64 ?_) | (apply cx65; refine kl tx65 ?_) | refine jst ?_ | exact ⟨rfl, rfl⟩ | exact jV | fail))
              all_goals first
                | exact ⟨by rw [cmT_yes hA hB, cmW_1 hc ‹¬ (flD (wrL t.d (t.new.take t.new.length)).1).2 = 0›, if_neg ‹¬ (flD (wrL t.d (t.new.take t.new.length)).1).2 = 0›]; rfl, rfl⟩
                | exact ⟨by rw [cmT_yes hA hB, cmW_2 hc ‹(flD (wrL t.d (t.new.take t.new.length)).1).2 = 0› ‹¬ (wrD (flD (wrL t.d (t.new.take t.new.length)).1).1 ((t.m.gen + 1).tmod 2) (ptM ⟨t.m.gen + 1, t.root⟩)).2 = 0›, if_neg ‹¬ (wrD (flD (wrL t.d (t.new.take t.new.length)).1).1 ((t.m.gen + 1).tmod 2) (ptM ⟨t.m.gen + 1, t.root⟩)).2 = 0›]; rfl, rfl⟩
                | exact ⟨by rw [cmT_yes hA hB, cmW_3 hc ‹(flD (wrL t.d (t.new.take t.new.length)).1).2 = 0› ‹(wrD (flD (wrL t.d (t.new.take t.new.length)).1).1 ((t.m.gen + 1).tmod 2) (ptM ⟨t.m.gen + 1, t.root⟩)).2 = 0›, if_neg ‹(flD (wrD (flD (wrL t.d (t.new.take t.new.length)).1).1 ((t.m.gen + 1).tmod 2) (ptM ⟨t.m.gen + 1, t.root⟩)).1).2 ≠ 0›]; rfl, rfl⟩
                | exact ⟨by rw [cmT_yes hA hB, cmW_3 hc ‹(flD (wrL t.d (t.new.take t.new.length)).1).2 = 0› ‹(wrD (flD (wrL t.d (t.new.take t.new.length)).1).1 ((t.m.gen + 1).tmod 2) (ptM ⟨t.m.gen + 1, t.root⟩)).2 = 0›, if_pos (Decidable.byContradiction ‹¬ (flD (wrD (flD (wrL t.d (t.new.take t.new.length)).1).1 ((t.m.gen + 1).tmod 2) (ptM ⟨t.m.gen + 1, t.root⟩)).1).2 ≠ 0›)]; rfl, rfl⟩
            · have hW : cmW t = (wrL t.d (t.new.take t.new.length)) := by
                rw [wrL_all] at *
                unfold cmW; rw [flS_n hc, cmS_n hc, flS_n hc]
              repeat' ((conv => whnf); (first | refine jA fun _ => ?_ | refine jB fun _ => ?_ | refine kC (fun _ => ?_) fun _ => ?_ | (apply cx60; refine kl tx60 ?_) | (apply cx22; refine kl tx22 ?_) | (apply cx63; refine kl tx63 ?_) | (apply cx62; refine kl tx62 ?_) | (apply cx61; refine kl tx61 ?_) | (apply cx64; refine kl tx64 ?_) | (apply cx65; refine kl tx65 ?_) | refine jst ?_ | exact ⟨rfl, rfl⟩ | exact jV | fail))
              conv => whnf
              refine bstep (w_outE 6 [] (wrL t.d (t.new.take t.new.length)).1.secs [slE true (wrL t.d (t.new.take t.new.length)).1.cache, i6 (wrL t.d (t.new.take t.new.length)).1.ops, slE true (wrL t.d (t.new.take t.new.length)).1.faults, b1 (wrL t.d (t.new.take t.new.length)).1.down] 1) ?_
              refine bstep (w_outE 6 [_] (wrL t.d (t.new.take t.new.length)).1.cache [i6 (wrL t.d (t.new.take t.new.length)).1.ops, slE true (wrL t.d (t.new.take t.new.length)).1.faults, b1 (wrL t.d (t.new.take t.new.length)).1.down] 2) ?_
              refine bstep (w_outE 6 [_, _, i6 (wrL t.d (t.new.take t.new.length)).1.ops] (wrL t.d (t.new.take t.new.length)).1.faults [b1 (wrL t.d (t.new.take t.new.length)).1.down] 3) ?_
              repeat' ((conv => whnf); (first | refine k0 ?_ | refine jA fun _ => ?_ | refine jB fun _ => ?_ | refine kC (fun _ => ?_) fun _ => ?_ | (apply cx60; refine kl tx60 ?_) | (apply cx22; refine kl tx22 ?_) | (apply cx63; refine kl tx63 ?_) | (apply cx62; refine kl tx62 ?_) | (apply cx61; refine kl tx61 ?_) | (apply cx64; refine kl tx64 ?_) | (apply cx65; refine kl tx65 ?_) | refine jst ?_ | exact ⟨rfl, rfl⟩ | exact jV | fail))
              exact ⟨by rw [cmT_yes hA hB, hW, if_neg hc]; rfl, rfl⟩
      · repeat' ((conv => whnf); (first | (apply cx60; refine kl (tx60 (d := t.d)) ?_) | refine k0 ?_ | refine jA fun _ => ?_ | refine jB fun _ => ?_ | refine kC (fun _ => ?_) fun _ => ?_ | (apply cx60; refine kl tx60 ?_) | (apply cx22; refine kl tx22 ?_) | (apply cx63; refine kl tx63 ?_) | (apply cx62; refine kl tx62 ?_) | (apply cx61; refine kl tx61 ?_) | (apply cx64; refine kl tx64 ?_) | (apply cx65; refine kl tx65 ?_) | refine jst ?_ | exact ⟨rfl, rfl⟩ | exact jV | fail))
        conv => whnf
        refine loopk (ι := Nat) (fun i => i ≤ t.new.length) (fun i => t.new.length - i) (0) [1, 2, 4, 43, 44] (fun i => [(5, .v false [i6 (wrL t.d (t.new.take i)).2]), (45, .v false [i6 i])]) [none, none, none, some fun _ => none, some fun _ => none, some fun _ => none, some fun i => (true, dskC true (wrL t.d (t.new.take i)).1)] ?_
        refine ⟨by omega, ?_, fun i hi => ?_⟩
        · exact ((w_inE 6 3 [] t.d.secs [.ref 4 0 t.d.cache.length 2, i6 t.d.ops, .ref 5 0 t.d.faults.length 3, b1 t.d.down] t.d.secs.length 1 rfl).trans ((w_inE 6 4 [slE true t.d.secs] t.d.cache [i6 t.d.ops, .ref 5 0 t.d.faults.length 3, b1 t.d.down] t.d.cache.length 2 rfl).trans (w_inE 6 5 [slE true t.d.secs, slE true t.d.cache, i6 t.d.ops] t.d.faults [b1 t.d.down] t.d.faults.length 3 rfl))).trans (w_autoX [] (by (conv => whnf); exact And.intro (by kernel_rfl) (And.intro (by kernel_rfl) (by repeat' (first | (with_reducible exact rfl) | ((conv => whnf); first | exact trivial | exact (by rw [wrL_z]; exact ⟨rfl, clo_dsk, rfl⟩) | exact tvi (by rw [wrL_z]) | exact rfl | exact tvi (by first | omega | (dsimp only; omega) | (simp; done)) | exact tvr (by first | omega | (dsimp only; omega) | (simp; done) | (simp; omega)) | exact ⟨rfl, clo_i, by first | rfl | rw [List.take_length] | assumption⟩ | refine And.intro ?_ ?_))))))
        · refine ⟨fun hlt => ?_, fun hge => ?_⟩
          · have hi2 : i < t.new.length := by omega
            have L := wrL_ok hT hA2 hi
            by_cases hc : (wrL t.d (t.new.take i)).2 = 0
            · have hin := hT.n_in hi2
              have p1 : zD (wrL t.d (t.new.take i)).1 ≤ 1000000 := by have := L.ok.small; omega
              have p2 : (pgN t.new[i].x).length ≤ 256 := ptP_256 _ _
              have p8 := zT_nod (t := t) (List.getElem_mem hi2)
              have p9 : zN t.new[i].x ≤ 2000000 := by omega
              have p10 : (if nodOk t.new[i].x = true then bdN t.new[i].x else []).length ≤ 10000000 := by
                have := bdN_len (x := t.new[i].x)
                split
                · omega
                · simp
              have hS : T 61 [.val true (dskC false (wrL t.d (t.new.take i)).1), aI t.new[i].n, aE (ptP 1 (if nodOk t.new[i].x = true then bdN t.new[i].x else []))] [(true, dskC true (wrD (wrL t.d (t.new.take i)).1 t.new[i].n (pgN t.new[i].x)).1), vI (wrD (wrL t.d (t.new.take i)).1 t.new[i].n (pgN t.new[i].x)).2] [none, none, none] := by
                have h := tx61 (d := (wrL t.d (t.new.take i)).1) (n := t.new[i].n) (b := pgN t.new[i].x) (by first | assumption | omega) (by omega)
                rwa [wsD_y ⟨L.ok, by omega, by rw [L.secs]; exact hin.2, p2, by have := L.cache; have := hT.new_len; omega⟩] at h
              have e := wrL_go hi2 hc
              repeat' ((conv => whnf); (first | refine jA fun _ => ?_ | refine jB fun _ => ?_ | refine kC (fun _ => ?_) fun _ => ?_ | (apply cx60; refine kl tx60 ?_) | (apply cx22; refine kl tx22 ?_) | (apply cx63; refine kl tx63 ?_) | (apply cx62; refine kl tx62 ?_) | (apply cx61; refine kl tx61 ?_) | (apply cx64; refine kl tx64 ?_) | (apply cx65; refine kl tx65 ?_) | refine jst ?_ | exact ⟨rfl, rfl⟩ | exact jV | fail))
              conv => whnf
              refine bstep (w_outE 6 [] (wrL t.d (t.new.take i)).1.secs [slE true (wrL t.d (t.new.take i)).1.cache, i6 (wrL t.d (t.new.take i)).1.ops, slE true (wrL t.d (t.new.take i)).1.faults, b1 (wrL t.d (t.new.take i)).1.down] 1) ?_
              refine bstep (w_outE 6 [_] (wrL t.d (t.new.take i)).1.cache [i6 (wrL t.d (t.new.take i)).1.ops, slE true (wrL t.d (t.new.take i)).1.faults, b1 (wrL t.d (t.new.take i)).1.down] 2) ?_
              refine bstep (w_outE 6 [_, _, i6 (wrL t.d (t.new.take i)).1.ops] (wrL t.d (t.new.take i)).1.faults [b1 (wrL t.d (t.new.take i)).1.down] 3) ?_
              repeat' ((conv => whnf); (first | (apply cx63; refine kl (tx63 (x := t.new[i].x)) ?_) | (apply cx62; refine kl (tx62 (k := 1) (b := if nodOk t.new[i].x = true then bdN t.new[i].x else [])) ?_) | (apply cx61; refine kl (hS) ?_) | refine k0 ?_ | refine jA fun _ => ?_ | refine jB fun _ => ?_ | refine kC (fun _ => ?_) fun _ => ?_ | (apply cx60; refine kl tx60 ?_) | (apply cx22; refine kl tx22 ?_) | (apply cx63; refine kl tx63 ?_) | (apply cx62; refine kl tx62 ?_) | (apply cx61; refine kl tx61 ?_) | (apply cx64; refine kl tx64 ?_) | (apply cx65; refine kl tx65 ?_) | refine jst ?_ | exact ⟨rfl, rfl⟩ | exact jV | fail))
              refine ⟨⟨i + 1, by omega⟩, by simp only; omega, ((w_inE 6 123 [] (wrD (wrL t.d (t.new.take i)).1 t.new[i].n (pgN t.new[i].x)).1.secs [.ref 124 0 (wrD (wrL t.d (t.new.take i)).1 t.new[i].n (pgN t.new[i].x)).1.cache.length 2, i6 (wrD (wrL t.d (t.new.take i)).1 t.new[i].n (pgN t.new[i].x)).1.ops, .ref 125 0 (wrD (wrL t.d (t.new.take i)).1 t.new[i].n (pgN t.new[i].x)).1.faults.length 3, b1 (wrD (wrL t.d (t.new.take i)).1 t.new[i].n (pgN t.new[i].x)).1.down] (wrD (wrL t.d (t.new.take i)).1 t.new[i].n (pgN t.new[i].x)).1.secs.length 1 rfl).trans ((w_inE 6 124 [slE true (wrD (wrL t.d (t.new.take i)).1 t.new[i].n (pgN t.new[i].x)).1.secs] (wrD (wrL t.d (t.new.take i)).1 t.new[i].n (pgN t.new[i].x)).1.cache [i6 (wrD (wrL t.d (t.new.take i)).1 t.new[i].n (pgN t.new[i].x)).1.ops, .ref 125 0 (wrD (wrL t.d (t.new.take i)).1 t.new[i].n (pgN t.new[i].x)).1.faults.length 3, b1 (wrD (wrL t.d (t.new.take i)).1 t.new[i].n (pgN t.new[i].x)).1.down] (wrD (wrL t.d (t.new.take i)).1 t.new[i].n (pgN t.new[i].x)).1.cache.length 2 rfl).trans (w_inE 6 125 [slE true (wrD (wrL t.d (t.new.take i)).1 t.new[i].n (pgN t.new[i].x)).1.secs, slE true (wrD (wrL t.d (t.new.take i)).1 t.new[i].n (pgN t.new[i].x)).1.cache, i6 (wrD (wrL t.d (t.new.take i)).1 t.new[i].n (pgN t.new[i].x)).1.ops] (wrD (wrL t.d (t.new.take i)).1 t.new[i].n (pgN t.new[i].x)).1.faults [b1 (wrD (wrL t.d (t.new.take i)).1 t.new[i].n (pgN t.new[i].x)).1.down] (wrD (wrL t.d (t.new.take i)).1 t.new[i].n (pgN t.new[i].x)).1.faults.length 3 rfl))).trans ?_⟩
              exact w_autoX [] (by (conv => whnf); exact And.intro (by kernel_rfl) (And.intro (by kernel_rfl) (by repeat' (first | (with_reducible exact rfl) | ((conv => whnf); first | exact trivial | exact (by rw [e]; exact ⟨rfl, clo_dsk, rfl⟩) | exact (congrArg Prod.snd e).symm | exact tvi (congrArg Prod.snd e).symm | exact rfl | exact tvi (by first | omega | (dsimp only; omega) | (simp; done)) | exact tvr (by first | omega | (dsimp only; omega) | (simp; done) | (simp; omega)) | exact ⟨rfl, clo_i, by first | rfl | rw [List.take_length] | assumption⟩ | refine And.intro ?_ ?_)))))
            · have e : wrL t.d (t.new.take (i + 1)) = wrL t.d (t.new.take i) := by rw [wrL_suc hi2, cmS_n hc]
              repeat' ((conv => whnf); (first | refine k0 ?_ | refine jA fun _ => ?_ | refine jB fun _ => ?_ | refine kC (fun _ => ?_) fun _ => ?_ | (apply cx60; refine kl tx60 ?_) | (apply cx22; refine kl tx22 ?_) | (apply cx63; refine kl tx63 ?_) | (apply cx62; refine kl tx62 ?_) | (apply cx61; refine kl tx61 ?_) | (apply cx64; refine kl tx64 ?_) | (apply cx65; refine kl tx65 ?_) | refine jst ?_ | exact ⟨rfl, rfl⟩ | exact jV | fail))
              refine ⟨⟨i + 1, by omega⟩, by simp only; omega, ?_⟩
              exact w_autoX [] (by (conv => whnf); exact And.intro (by kernel_rfl) (And.intro (by kernel_rfl) (by repeat' (first | (with_reducible exact rfl) | ((conv => whnf); first | exact trivial | exact (by rw [e]; exact ⟨rfl, clo_dsk, rfl⟩) | exact tvi (by rw [e]) | exact rfl | exact tvi (by first | omega | (dsimp only; omega) | (simp; done)) | exact tvr (by first | omega | (dsimp only; omega) | (simp; done) | (simp; omega)) | exact ⟨rfl, clo_i, by first | rfl | rw [List.take_length] | assumption⟩ | refine And.intro ?_ ?_)))))
          · obtain rfl : i = t.new.length := by omega
            have L := wrL_ok hT hA2 hi
            have hg := hT.gen
            by_cases hc : (wrL t.d (t.new.take t.new.length)).2 = 0
            · have LF := (flD_ok L.ok).1
              have hg2 := tm2 (n := t.m.gen + 1) (by omega)
              have hs4 := hT.d.secs
              have c1 : (flD (wrL t.d (t.new.take t.new.length)).1).1.cache.length < 60 := by have := LF.cache; have := L.cache; have := hT.new_len; omega
              have c2 : 0 ≤ (t.m.gen + 1).tmod 2 ∧ (t.m.gen + 1).tmod 2 < (flD (wrL t.d (t.new.take t.new.length)).1).1.secs.length := by rw [LF.secs, L.secs]; omega
              have LM := wrD_ok (n := (t.m.gen + 1).tmod 2) (b := ptM ⟨t.m.gen + 1, t.root⟩) LF.ok c1 c2 (ptM_256 _)
              have hS1 : T 64 [.val true (dskC false (wrL t.d (t.new.take t.new.length)).1)] [(true, dskC true (flD (wrL t.d (t.new.take t.new.length)).1).1), vI (flD (wrL t.d (t.new.take t.new.length)).1).2] [none] := by
                have h := tx64 (d := (wrL t.d (t.new.take t.new.length)).1) (by have := L.ok.small; omega)
                rwa [fsD_y L.ok] at h
              have hS2 : T 61 [.val true (dskC false (flD (wrL t.d (t.new.take t.new.length)).1).1), aI ((t.m.gen + 1).tmod 2), aE (ptM ⟨t.m.gen + 1, t.root⟩)] [(true, dskC true (wrD (flD (wrL t.d (t.new.take t.new.length)).1).1 ((t.m.gen + 1).tmod 2) (ptM ⟨t.m.gen + 1, t.root⟩)).1), vI (wrD (flD (wrL t.d (t.new.take t.new.length)).1).1 ((t.m.gen + 1).tmod 2) (ptM ⟨t.m.gen + 1, t.root⟩)).2] [none, none, none] := by
                have h := tx61 (d := (flD (wrL t.d (t.new.take t.new.length)).1).1) (n := (t.m.gen + 1).tmod 2) (b := ptM ⟨t.m.gen + 1, t.root⟩) (by have := LF.ok.small; omega) (by have := ptM_256 ⟨t.m.gen + 1, t.root⟩; omega)
                rwa [wsD_y ⟨LF.ok, c2.1, c2.2, ptM_256 _, c1⟩] at h
              have hS3 : T 64 [.val true (dskC false (wrD (flD (wrL t.d (t.new.take t.new.length)).1).1 ((t.m.gen + 1).tmod 2) (ptM ⟨t.m.gen + 1, t.root⟩)).1)] [(true, dskC true (flD (wrD (flD (wrL t.d (t.new.take t.new.length)).1).1 ((t.m.gen + 1).tmod 2) (ptM ⟨t.m.gen + 1, t.root⟩)).1).1), vI (flD (wrD (flD (wrL t.d (t.new.take t.new.length)).1).1 ((t.m.gen + 1).tmod 2) (ptM ⟨t.m.gen + 1, t.root⟩)).1).2] [none] := by
                have h := tx64 (d := (wrD (flD (wrL t.d (t.new.take t.new.length)).1).1 ((t.m.gen + 1).tmod 2) (ptM ⟨t.m.gen + 1, t.root⟩)).1) (by have := LM.ok.small; omega)
                rwa [fsD_y LM.ok] at h
              repeat' ((conv => whnf); (first | refine jA fun _ => ?_ | refine jB fun _ => ?_ | refine kC (fun _ => ?_) fun _ => ?_ | (apply cx60; refine kl tx60 ?_) | (apply cx22; refine kl tx22 ?_) | (apply cx63; refine kl tx63 ?_) | (apply cx62; refine kl tx62 ?_) | (apply cx61; refine kl tx61 ?_) | (apply cx64; refine kl tx64 ?_) | (apply cx65; refine kl tx65 ?_) | refine jst ?_ | exact ⟨rfl, rfl⟩ | exact jV | fail))
              conv => whnf
              refine bstep (w_outE 6 [] (wrL t.d (t.new.take t.new.length)).1.secs [slE true (wrL t.d (t.new.take t.new.length)).1.cache, i6 (wrL t.d (t.new.take t.new.length)).1.ops, slE true (wrL t.d (t.new.take t.new.length)).1.faults, b1 (wrL t.d (t.new.take t.new.length)).1.down] 1) ?_
              refine bstep (w_outE 6 [_] (wrL t.d (t.new.take t.new.length)).1.cache [i6 (wrL t.d (t.new.take t.new.length)).1.ops, slE true (wrL t.d (t.new.take t.new.length)).1.faults, b1 (wrL t.d (t.new.take t.new.length)).1.down] 2) ?_
              refine bstep (w_outE 6 [_, _, i6 (wrL t.d (t.new.take t.new.length)).1.ops] (wrL t.d (t.new.take t.new.length)).1.faults [b1 (wrL t.d (t.new.take t.new.length)).1.down] 3) ?_
              repeat' ((conv => whnf); (first | (apply cx65; refine kl (tx65 (m := ⟨t.m.gen + 1, t.root⟩)) ?_) | (apply cx64; refine kl (hS1) ?_) | (apply cx61; refine kl (hS2) ?_) | (apply cx64; refine kl (hS3) ?_) | refine And.intro (by decide) (Exists.intro _ (And.intro rfl ?_)) | refine k0 ?_ | refine jA fun _ => ?_ | refine jB fun _ => ?_ | refine kC (fun _ => ?_) fun _ => ?_ | (apply cx60; refine kl tx60 ?_) | (apply cx22; refine kl tx22 ?_) | (apply cx63; refine kl tx63 ?_) | (apply cx62; refine kl tx62 ?_) | (apply cx61; refine kl tx61 ?_) | (apply cx64; refine kl tx64 ?_) | (apply cx65; refine kl tx65 ?_) | refine jst ?_ | exact ⟨rfl, rfl⟩ | exact jV | fail))
              all_goals first
                | exact ⟨by rw [cmT_yes hA hB, cmW_1 hc ‹¬ (flD (wrL t.d (t.new.take t.new.length)).1).2 = 0›, if_neg ‹¬ (flD (wrL t.d (t.new.take t.new.length)).1).2 = 0›]; rfl, rfl⟩
                | exact ⟨by rw [cmT_yes hA hB, cmW_2 hc ‹(flD (wrL t.d (t.new.take t.new.length)).1).2 = 0› ‹¬ (wrD (flD (wrL t.d (t.new.take t.new.length)).1).1 ((t.m.gen + 1).tmod 2) (ptM ⟨t.m.gen + 1, t.root⟩)).2 = 0›, if_neg ‹¬ (wrD (flD (wrL t.d (t.new.take t.new.length)).1).1 ((t.m.gen + 1).tmod 2) (ptM ⟨t.m.gen + 1, t.root⟩)).2 = 0›]; rfl, rfl⟩
                | exact ⟨by rw [cmT_yes hA hB, cmW_3 hc ‹(flD (wrL t.d (t.new.take t.new.length)).1).2 = 0› ‹(wrD (flD (wrL t.d (t.new.take t.new.length)).1).1 ((t.m.gen + 1).tmod 2) (ptM ⟨t.m.gen + 1, t.root⟩)).2 = 0›, if_neg ‹(flD (wrD (flD (wrL t.d (t.new.take t.new.length)).1).1 ((t.m.gen + 1).tmod 2) (ptM ⟨t.m.gen + 1, t.root⟩)).1).2 ≠ 0›]; rfl, rfl⟩
                | exact ⟨by rw [cmT_yes hA hB, cmW_3 hc ‹(flD (wrL t.d (t.new.take t.new.length)).1).2 = 0› ‹(wrD (flD (wrL t.d (t.new.take t.new.length)).1).1 ((t.m.gen + 1).tmod 2) (ptM ⟨t.m.gen + 1, t.root⟩)).2 = 0›, if_pos (Decidable.byContradiction ‹¬ (flD (wrD (flD (wrL t.d (t.new.take t.new.length)).1).1 ((t.m.gen + 1).tmod 2) (ptM ⟨t.m.gen + 1, t.root⟩)).1).2 ≠ 0›)]; rfl, rfl⟩
            · have hW : cmW t = (wrL t.d (t.new.take t.new.length)) := by
                rw [wrL_all] at *
                unfold cmW; rw [flS_n hc, cmS_n hc, flS_n hc]
              repeat' ((conv => whnf); (first | refine jA fun _ => ?_ | refine jB fun _ => ?_ | refine kC (fun _ => ?_) fun _ => ?_ | (apply cx60; refine kl tx60 ?_) | (apply cx22; refine kl tx22 ?_) | (apply cx63; refine kl tx63 ?_) | (apply cx62; refine kl tx62 ?_) | (apply cx61; refine kl tx61 ?_) | (apply cx64; refine kl tx64 ?_) | (apply cx65; refine kl tx65 ?_) | refine jst ?_ | exact ⟨rfl, rfl⟩ | exact jV | fail))
              conv => whnf
              refine bstep (w_outE 6 [] (wrL t.d (t.new.take t.new.length)).1.secs [slE true (wrL t.d (t.new.take t.new.length)).1.cache, i6 (wrL t.d (t.new.take t.new.length)).1.ops, slE true (wrL t.d (t.new.take t.new.length)).1.faults, b1 (wrL t.d (t.new.take t.new.length)).1.down] 1) ?_
              refine bstep (w_outE 6 [_] (wrL t.d (t.new.take t.new.length)).1.cache [i6 (wrL t.d (t.new.take t.new.length)).1.ops, slE true (wrL t.d (t.new.take t.new.length)).1.faults, b1 (wrL t.d (t.new.take t.new.length)).1.down] 2) ?_
              refine bstep (w_outE 6 [_, _, i6 (wrL t.d (t.new.take t.new.length)).1.ops] (wrL t.d (t.new.take t.new.length)).1.faults [b1 (wrL t.d (t.new.take t.new.length)).1.down] 3) ?_
              repeat' ((conv => whnf); (first | refine k0 ?_ | refine jA fun _ => ?_ | refine jB fun _ => ?_ | refine kC (fun _ => ?_) fun _ => ?_ | (apply cx60; refine kl tx60 ?_) | (apply cx22; refine kl tx22 ?_) | (apply cx63; refine kl tx63 ?_) | (apply cx62; refine kl tx62 ?_) | (apply cx61; refine kl tx61 ?_) | (apply cx64; refine kl tx64 ?_) | (apply cx65; refine kl tx65 ?_) | refine jst ?_ | exact ⟨rfl, rfl⟩ | exact jV | fail))
              exact ⟨by rw [cmT_yes hA hB, hW, if_neg hc]; rfl, rfl⟩
  · by_cases c1 : txOk t = true
    · have hgn := (txOk_iff.1 c1).gen
      by_cases c2 : t.d.cache.length = 0
      · have c3 : ¬ t.m.gen < 1000000 := fun h => hA ⟨c1, c2, h⟩
        repeat' ((conv => whnf); (first | (apply cx60; refine kl (tx60 (d := t.d)) ?_) | refine k0 ?_ | refine jA fun _ => ?_ | refine jB fun _ => ?_ | refine kC (fun _ => ?_) fun _ => ?_ | (apply cx60; refine kl tx60 ?_) | (apply cx22; refine kl tx22 ?_) | (apply cx63; refine kl tx63 ?_) | (apply cx62; refine kl tx62 ?_) | (apply cx61; refine kl tx61 ?_) | (apply cx64; refine kl tx64 ?_) | (apply cx65; refine kl tx65 ?_) | refine jst ?_ | exact ⟨rfl, rfl⟩ | exact jV | fail))
        exact ⟨by rw [cmT_no hA]; rfl, rfl⟩
      · repeat' ((conv => whnf); (first | (apply cx60; refine kl (tx60 (d := t.d)) ?_) | refine k0 ?_ | refine jA fun _ => ?_ | refine jB fun _ => ?_ | refine kC (fun _ => ?_) fun _ => ?_ | (apply cx60; refine kl tx60 ?_) | (apply cx22; refine kl tx22 ?_) | (apply cx63; refine kl tx63 ?_) | (apply cx62; refine kl tx62 ?_) | (apply cx61; refine kl tx61 ?_) | (apply cx64; refine kl tx64 ?_) | (apply cx65; refine kl tx65 ?_) | refine jst ?_ | exact ⟨rfl, rfl⟩ | exact jV | fail))
        exact ⟨by rw [cmT_no hA]; rfl, rfl⟩
    · have c4 : txOk t = false := by cases h : txOk t with
        | true => exact absurd h c1
        | false => rfl
      repeat' ((conv => whnf); (first | (apply cx60; refine kl (tx60 (d := t.d)) ?_) | refine k0 ?_ | refine jA fun _ => ?_ | refine jB fun _ => ?_ | refine kC (fun _ => ?_) fun _ => ?_ | (apply cx60; refine kl tx60 ?_) | (apply cx22; refine kl tx22 ?_) | (apply cx63; refine kl tx63 ?_) | (apply cx62; refine kl tx62 ?_) | (apply cx61; refine kl tx61 ?_) | (apply cx64; refine kl tx64 ?_) | (apply cx65; refine kl tx65 ?_) | refine jst ?_ | exact ⟨rfl, rfl⟩ | exact jV | fail))
      exact ⟨by rw [cmT_no hA]; rfl, rfl⟩

theorem cx24 {P : Program} {X : FuncId → List Arg → List (Bool × List Cell) → List (Option (List Cell)) → Prop} {a : List Arg} {Q : List (Bool × List Cell) → List (Option (List Cell)) → Prop} (h : ∃ b vals outs, a = b ∧ D P X (.call 24 b vals outs) ∧ Q vals outs) : CallS P X 24 a Q := ⟨h⟩

end Go.Proofs.YtkggnekdjdnhiaaGreat
