/- Functions of the program, each with what it gives back. -/
import Derived.Test.YtmphoefccibibaaKe
import Derived.Test.YtmphoefccibibaaChecked
import Derived.IntWalk
import Derived.Test.YtmphoefccibibaaDf
import Derived.Test.YtmphoefccibibaaWl
namespace Go.Proofs.Ytmphoefccibibaa
open Go Go.RowKit Go.IntWalk
open Enc (sz cs)
attribute [local irreducible] IntKind.wrap

/-! ### The newest root -/
theorem bmS_up {d : Dsk} {a : Met × Bool} {i : Int} (h : a.2 = true) : (bmS d a i).2 = true ∧ a.1.gen ≤ (bmS d a i).1.gen := by
  by_cases q : (gM (rdS d i).1).2 = true ∧ (gM (rdS d i).1).1.gen.tmod 2 = i ∧ (a.2 = false ∨ a.1.gen < (gM (rdS d i).1).1.gen)
  · rw [bmS_yes q.1 q.2.1 q.2.2]
    refine ⟨rfl, ?_⟩
    rcases q.2.2 with e | e
    · rw [h] at e; cases e
    · exact Int.le_of_lt e
  · rw [bmS_no q]; exact ⟨h, Int.le_refl _⟩
theorem bmS_max {d : Dsk} {a : Met × Bool} {i : Int} (h1 : (gM (rdS d i).1).2 = true) (h2 : (gM (rdS d i).1).1.gen.tmod 2 = i) : (bmS d a i).2 = true ∧ (gM (rdS d i).1).1.gen ≤ (bmS d a i).1.gen := by
  by_cases q : a.2 = false ∨ a.1.gen < (gM (rdS d i).1).1.gen
  · rw [bmS_yes h1 h2 q]; exact ⟨rfl, Int.le_refl _⟩
  · rw [bmS_no (fun e => q e.2.2)]
    have ha : a.2 = true := by cases e : a.2 with
      | true => rfl
      | false => exact absurd (.inl e) q
    refine ⟨ha, ?_⟩
    have := fun e => q (.inr e)
    omega
theorem bestM_max {d : Dsk} {i : Nat} (hi : i < 2) (h1 : (gM (rdS d i).1).2 = true) (h2 : (gM (rdS d i).1).1.gen.tmod 2 = i) : (bestM d).2 = true ∧ (gM (rdS d i).1).1.gen ≤ (bestM d).1.gen := by
  unfold bestM
  have e : i = 0 ∨ i = 1 := by omega
  rcases e with rfl | rfl
  · have a := bmS_max (d := d) (a := (⟨0, 0⟩, false)) h1 h2
    have b := bmS_up (d := d) (i := 1) a.1
    exact ⟨b.1, Int.le_trans a.2 b.2⟩
  · exact bmS_max h1 h2
theorem best_0 : bestM dsk0 = (⟨0, 0⟩, false) := by
  have h : ∀ n, rdS dsk0 n = ([], false) := fun n => rdS_out (by simp only [List.length_nil]; omega)
  unfold bestM
  rw [bmS_no (fun q => by rw [h, gM_nil] at q; cases q.1), bmS_no (fun q => by rw [h, gM_nil] at q; cases q.1)]
theorem best_B {n : Nat} {l : List Fau} (hn : 4 ≤ n) : bestM (dskB n (ptM ⟨0, 0⟩) l) = (⟨0, 0⟩, true) := by
  have hm : metaOk ⟨0, 0⟩ = true := by decide
  have hl : (dskB n (ptM ⟨0, 0⟩) l).secs.length = n := by simp; omega
  have r0 : (rdS (dskB n (ptM ⟨0, 0⟩) l) 0).1 = ptM ⟨0, 0⟩ := by rw [rdS_in (by rw [hl]; omega)]; rfl
  have r1 : (rdS (dskB n (ptM ⟨0, 0⟩) l) 1).1 = [] := by
    rw [rdS_in (by rw [hl]; omega)]
    show (none.getD ((ptM ⟨0, 0⟩ :: List.replicate (n - 1) []).getD 1 [])) = []
    rw [rep_suc (n := n - 1) (by omega)]; rfl
  unfold bestM
  rw [bmS_no (i := 1) (fun q => by rw [r1, gM_nil] at q; cases q.1), bmS_yes (i := 0) (by rw [r0, gM_pt hm]) (by rw [r0, gM_pt hm]; rfl) (.inl rfl), r0, gM_pt hm]
theorem best_f {n : Int} {l : List Fau} : (bestM (fmtD n l)).1 = ⟨0, 0⟩ ∧ (bestM (fmtD n l)).2 = decide (0 < (fmtD n l).secs.length) := by
  unfold fmtD
  by_cases h : 4 ≤ n ∧ n ≤ 48 ∧ FauOk l
  · rw [newD_yes h, best_B (by omega)]
    exact ⟨rfl, (decide_eq_true (by simp)).symm⟩
  · rw [newD_no h, best_0]; exact ⟨rfl, rfl⟩
theorem fmt_z {n : Int} {l : List Fau} (hl : l.length ≤ 1000) : zD (fmtD n l) ≤ 2000000 ∧ (fmtD n l).secs.length ≤ 48 := by
  have h2 := ptM_256 ⟨0, 0⟩
  unfold fmtD
  by_cases h : 4 ≤ n ∧ n ≤ 48 ∧ FauOk l
  · rw [newD_yes h, zD_new (by omega)]
    exact ⟨by omega, by simp; omega⟩
  · rw [newD_no h]; exact ⟨by show 0 ≤ _; omega, by show 0 ≤ _; omega⟩
attribute [local irreducible] gU gT gS gP gM ptP ptM ptS crcN rdS bestM bmD ddC fmtD

set_option maxHeartbeats 2000000 in
set_option maxRecDepth 100000 in
theorem tx3 {b : List UInt8} (hb : b.length ≤ 140737488355327 := by first | assumption | omega | (simp; done) | (simp; omega)) : T 3 [aE b] [vB true] [none] := by
  refine w_call md [] Try.func3 rfl ?_
  by_cases hz : 1048576 < b.length
  · have hB : T 4 [aE b] [vB true] [none] := by
      have h := tx4 (b := b)
      rwa [decide_eq_true (by omega)] at h
    repeat' ((conv => whnf); (first | (apply cx4; refine kl (hB) ?_) | refine k0 ?_ | refine jA fun _ => ?_ | refine jB fun _ => ?_ | refine kC (fun _ => ?_) fun _ => ?_ | refine jS ?_ | refine jI ?_ | (apply cx4; refine kl tx4 ?_) | (apply cx5; refine kl tx5 ?_) | (apply cx6; refine kl tx6 ?_) | (apply cx7; refine kl tx7 ?_) | (apply cx8; refine kl tx8 ?_) | (apply cx9; refine kl tx9 ?_) | (apply cx10; refine kl tx10 ?_) | (apply cx11; refine kl tx11 ?_) | (apply cx12; refine kl tx12 ?_) | refine jD ?_ | refine ⟨snc, _, snr, ?_⟩ | refine ⟨⟨Nat.le_refl _, rfl⟩, [], rfl, ?_⟩ | refine And.intro ⟨rfl, rfl, by decide, rfl⟩ ?_ | refine jP ?_ | refine jO ?_ | refine jX ?_ | refine jb jr ?_ | refine jb ofs ?_ | refine ko jc ?_ | refine ko jp ?_ | refine jM ?_ | refine kr ?_ | refine ko rfl ?_ | refine And.intro (cs_shal _) ?_ | refine And.intro (rfl : List.all _ _ = true) ?_ | refine And.intro ⟨rfl, (rfl : List.all _ _ = true)⟩ ?_ | exact ⟨rfl, rfl⟩ | exact jV | fail))
  · have hB : T 4 [aE b] [vB false] [none] := by
      have h := tx4 (b := b)
      rwa [decide_eq_false (by omega)] at h
    have hD := (bmD_ok (b := b) (by omega)).small
    have hDs := (bmD_ok (b := b) (by omega)).secs
    simp only at hD hDs
    have hdl := ddC_len (b := b)
    have hfz := fmt_z (n := (ddC b).1) (l := (ddC b).2) (by omega)
    have hbf := best_f (n := (ddC b).1) (l := (ddC b).2)
    obtain ⟨hbf1, hbf2⟩ := hbf
    have hfz1 := hfz.1
    have hfz2 := hfz.2
    cases hO : (bestM (bmD b)).2
    · skip
      have hI : T 6 [.val true (dskC false (bmD b))] [(true, metC (bestM (bmD b)).1), vB false] [none] := by
        have h := tx6 (d := bmD b)
        rwa [hO] at h
      have hS : T 11 [.val true (dskC false (bmD b))] [(true, metC (bestM (bmD b)).1), vB false] [none] := by
        have h := tx11 (d := bmD b)
        rwa [hO] at h
      repeat' ((conv => whnf); (first | (apply cx4; refine kl (hB) ?_) | (apply cx5; refine kl (tx5 (b := b)) ?_) | (apply cx6; refine kl (hI) ?_) | refine k0 ?_ | refine jA fun _ => ?_ | refine jB fun _ => ?_ | refine kC (fun _ => ?_) fun _ => ?_ | refine jS ?_ | refine jI ?_ | (apply cx4; refine kl tx4 ?_) | (apply cx5; refine kl tx5 ?_) | (apply cx6; refine kl tx6 ?_) | (apply cx7; refine kl tx7 ?_) | (apply cx8; refine kl tx8 ?_) | (apply cx9; refine kl tx9 ?_) | (apply cx10; refine kl tx10 ?_) | (apply cx11; refine kl tx11 ?_) | (apply cx12; refine kl tx12 ?_) | refine jD ?_ | refine ⟨snc, _, snr, ?_⟩ | refine ⟨⟨Nat.le_refl _, rfl⟩, [], rfl, ?_⟩ | refine And.intro ⟨rfl, rfl, by decide, rfl⟩ ?_ | refine jP ?_ | refine jO ?_ | refine jX ?_ | refine jb jr ?_ | refine jb ofs ?_ | refine ko jc ?_ | refine ko jp ?_ | refine jM ?_ | refine kr ?_ | refine ko rfl ?_ | refine And.intro (cs_shal _) ?_ | refine And.intro (rfl : List.all _ _ = true) ?_ | refine And.intro ⟨rfl, (rfl : List.all _ _ = true)⟩ ?_ | exact ⟨rfl, rfl⟩ | exact jV | fail))
      conv => whnf
      refine loopk (ι := Nat) (fun i => i ≤ 2) (fun i => 2 - i) (0) [0, 3, 4, 5] (fun i => [(6, .v false [i6 i])]) [none, none, none] ?_
      refine ⟨by omega, ?_, fun i hi => ?_⟩
      · exact jw []
      · repeat' ((conv => whnf); (first | refine k0 ?_ | refine jS ?_ | refine jI ?_ | (apply cx4; refine kl tx4 ?_) | (apply cx5; refine kl tx5 ?_) | (apply cx6; refine kl tx6 ?_) | (apply cx7; refine kl tx7 ?_) | (apply cx8; refine kl tx8 ?_) | (apply cx9; refine kl tx9 ?_) | (apply cx10; refine kl tx10 ?_) | (apply cx11; refine kl tx11 ?_) | (apply cx12; refine kl tx12 ?_) | refine jD ?_ | refine ⟨snc, _, snr, ?_⟩ | refine ⟨⟨Nat.le_refl _, rfl⟩, [], rfl, ?_⟩ | refine And.intro ⟨rfl, rfl, by decide, rfl⟩ ?_ | refine jP ?_ | refine jO ?_ | refine jX ?_ | refine jb jr ?_ | refine jb ofs ?_ | refine ko jc ?_ | refine ko jp ?_ | refine jM ?_ | refine kr ?_ | refine ko rfl ?_ | refine And.intro (cs_shal _) ?_ | refine And.intro (rfl : List.all _ _ = true) ?_ | refine And.intro ⟨rfl, (rfl : List.all _ _ = true)⟩ ?_ | exact ⟨rfl, rfl⟩ | exact jV | fail))
        conv => whnf
        refine ⟨fun hlt => ?_, fun hge => ?_⟩
        · have hrl := rdS_len (d := bmD b) (n := (i : Int))
          have hmx := bestM_max (d := bmD b) (i := i) (by omega)
          have hR : T 7 [.val true (dskC false (bmD b)), aI i] [vE (rdS (bmD b) i).1, vB true] [none, none] := by
            have h := tx7 (d := bmD b) (n := (i : Int))
            rwa [show (rdS (bmD b) (i : Int)).2 = true by rw [rdS_in (by omega)]] at h
          by_cases q1 : (gM (rdS (bmD b) i).1).2 = true
          · have hG : T 8 [aE (rdS (bmD b) i).1] [(true, metC (gM (rdS (bmD b) i).1).1), vB true] [none] := by
              have h := tx8 (b := (rdS (bmD b) i).1) (by omega)
              rwa [q1] at h
            by_cases q2 : (gM (rdS (bmD b) i).1).1.gen.tmod 2 = i
            · have hle := hmx q1 q2
              exact absurd hle.1 (by rw [hO]; decide)
            · repeat' ((conv => whnf); (first | (apply cx7; refine kl (hR) ?_) | (apply cx8; refine kl (hG) ?_) | refine And.intro (by decide) (Exists.intro _ (And.intro rfl ?_)) | refine k0 ?_ | refine jA fun _ => ?_ | refine jB fun _ => ?_ | refine kC (fun _ => ?_) fun _ => ?_ | refine jS ?_ | refine jI ?_ | (apply cx4; refine kl tx4 ?_) | (apply cx5; refine kl tx5 ?_) | (apply cx6; refine kl tx6 ?_) | (apply cx7; refine kl tx7 ?_) | (apply cx8; refine kl tx8 ?_) | (apply cx9; refine kl tx9 ?_) | (apply cx10; refine kl tx10 ?_) | (apply cx11; refine kl tx11 ?_) | (apply cx12; refine kl tx12 ?_) | refine jD ?_ | refine ⟨snc, _, snr, ?_⟩ | refine ⟨⟨Nat.le_refl _, rfl⟩, [], rfl, ?_⟩ | refine And.intro ⟨rfl, rfl, by decide, rfl⟩ ?_ | refine jP ?_ | refine jO ?_ | refine jX ?_ | refine jb jr ?_ | refine jb ofs ?_ | refine ko jc ?_ | refine ko jp ?_ | refine jM ?_ | refine kr ?_ | refine ko rfl ?_ | refine And.intro (cs_shal _) ?_ | refine And.intro (rfl : List.all _ _ = true) ?_ | refine And.intro ⟨rfl, (rfl : List.all _ _ = true)⟩ ?_ | exact ⟨rfl, rfl⟩ | exact jV | fail))
              refine ⟨⟨i + 1, by omega⟩, by simp only; omega, ?_⟩
              exact jw []
          · have q1f : (gM (rdS (bmD b) i).1).2 = false := by cases e : (gM (rdS (bmD b) i).1).2 with
              | true => exact absurd e q1
              | false => rfl
            have hG : T 8 [aE (rdS (bmD b) i).1] [(true, metC (gM (rdS (bmD b) i).1).1), vB false] [none] := by
              have h := tx8 (b := (rdS (bmD b) i).1) (by omega)
              rwa [q1f] at h
            repeat' ((conv => whnf); (first | (apply cx7; refine kl (hR) ?_) | (apply cx8; refine kl (hG) ?_) | refine k0 ?_ | refine jA fun _ => ?_ | refine jB fun _ => ?_ | refine kC (fun _ => ?_) fun _ => ?_ | refine jS ?_ | refine jI ?_ | (apply cx4; refine kl tx4 ?_) | (apply cx5; refine kl tx5 ?_) | (apply cx6; refine kl tx6 ?_) | (apply cx7; refine kl tx7 ?_) | (apply cx8; refine kl tx8 ?_) | (apply cx9; refine kl tx9 ?_) | (apply cx10; refine kl tx10 ?_) | (apply cx11; refine kl tx11 ?_) | (apply cx12; refine kl tx12 ?_) | refine jD ?_ | refine ⟨snc, _, snr, ?_⟩ | refine ⟨⟨Nat.le_refl _, rfl⟩, [], rfl, ?_⟩ | refine And.intro ⟨rfl, rfl, by decide, rfl⟩ ?_ | refine jP ?_ | refine jO ?_ | refine jX ?_ | refine jb jr ?_ | refine jb ofs ?_ | refine ko jc ?_ | refine ko jp ?_ | refine jM ?_ | refine kr ?_ | refine ko rfl ?_ | refine And.intro (cs_shal _) ?_ | refine And.intro (rfl : List.all _ _ = true) ?_ | refine And.intro ⟨rfl, (rfl : List.all _ _ = true)⟩ ?_ | exact ⟨rfl, rfl⟩ | exact jV | fail))
            refine ⟨⟨i + 1, by omega⟩, by simp only; omega, ?_⟩
            exact jw []
        · obtain rfl : i = 2 := by omega
          by_cases hs : 0 < (fmtD (ddC b).1 (ddC b).2).secs.length
          · have hF : T 6 [.val true (dskC false (fmtD (ddC b).1 (ddC b).2))] [(true, metC ⟨0, 0⟩), vB true] [none] := by
              have h := tx6 (d := fmtD (ddC b).1 (ddC b).2) hfz.1
              rw [hbf1, hbf2, decide_eq_true hs] at h; exact h
            repeat' ((conv => whnf); (first | (apply cx9; refine kl (tx9 (b := b)) ?_) | (apply cx10; refine kl (tx10 (n := (ddC b).1) (l := (ddC b).2)) ?_) | (apply cx12; refine kl (tx12 (n := (ddC b).1) (l := (ddC b).2)) ?_) | (apply cx6; refine kl (hF) ?_) | (apply cx11; refine kl (hS) ?_) | refine ko eqM_y ?_ | refine k0 ?_ | refine jA fun _ => ?_ | refine jB fun _ => ?_ | refine kC (fun _ => ?_) fun _ => ?_ | refine jS ?_ | refine jI ?_ | (apply cx4; refine kl tx4 ?_) | (apply cx5; refine kl tx5 ?_) | (apply cx6; refine kl tx6 ?_) | (apply cx7; refine kl tx7 ?_) | (apply cx8; refine kl tx8 ?_) | (apply cx9; refine kl tx9 ?_) | (apply cx10; refine kl tx10 ?_) | (apply cx11; refine kl tx11 ?_) | (apply cx12; refine kl tx12 ?_) | refine jD ?_ | refine ⟨snc, _, snr, ?_⟩ | refine ⟨⟨Nat.le_refl _, rfl⟩, [], rfl, ?_⟩ | refine And.intro ⟨rfl, rfl, by decide, rfl⟩ ?_ | refine jP ?_ | refine jO ?_ | refine jX ?_ | refine jb jr ?_ | refine jb ofs ?_ | refine ko jc ?_ | refine ko jp ?_ | refine jM ?_ | refine kr ?_ | refine ko rfl ?_ | refine And.intro (cs_shal _) ?_ | refine And.intro (rfl : List.all _ _ = true) ?_ | refine And.intro ⟨rfl, (rfl : List.all _ _ = true)⟩ ?_ | exact ⟨rfl, rfl⟩ | exact jV | fail))
          · have hF : T 6 [.val true (dskC false (fmtD (ddC b).1 (ddC b).2))] [(true, metC ⟨0, 0⟩), vB false] [none] := by
              have h := tx6 (d := fmtD (ddC b).1 (ddC b).2) hfz.1
              rw [hbf1, hbf2, decide_eq_false hs] at h; exact h
            repeat' ((conv => whnf); (first | (apply cx9; refine kl (tx9 (b := b)) ?_) | (apply cx10; refine kl (tx10 (n := (ddC b).1) (l := (ddC b).2)) ?_) | (apply cx12; refine kl (tx12 (n := (ddC b).1) (l := (ddC b).2)) ?_) | (apply cx6; refine kl (hF) ?_) | (apply cx11; refine kl (hS) ?_) | refine ko eqM_y ?_ | refine k0 ?_ | refine jA fun _ => ?_ | refine jB fun _ => ?_ | refine kC (fun _ => ?_) fun _ => ?_ | refine jS ?_ | refine jI ?_ | (apply cx4; refine kl tx4 ?_) | (apply cx5; refine kl tx5 ?_) | (apply cx6; refine kl tx6 ?_) | (apply cx7; refine kl tx7 ?_) | (apply cx8; refine kl tx8 ?_) | (apply cx9; refine kl tx9 ?_) | (apply cx10; refine kl tx10 ?_) | (apply cx11; refine kl tx11 ?_) | (apply cx12; refine kl tx12 ?_) | refine jD ?_ | refine ⟨snc, _, snr, ?_⟩ | refine ⟨⟨Nat.le_refl _, rfl⟩, [], rfl, ?_⟩ | refine And.intro ⟨rfl, rfl, by decide, rfl⟩ ?_ | refine jP ?_ | refine jO ?_ | refine jX ?_ | refine jb jr ?_ | refine jb ofs ?_ | refine ko jc ?_ | refine ko jp ?_ | refine jM ?_ | refine kr ?_ | refine ko rfl ?_ | refine And.intro (cs_shal _) ?_ | refine And.intro (rfl : List.all _ _ = true) ?_ | refine And.intro ⟨rfl, (rfl : List.all _ _ = true)⟩ ?_ | exact ⟨rfl, rfl⟩ | exact jV | fail))
    · skip
      have hI : T 6 [.val true (dskC false (bmD b))] [(true, metC (bestM (bmD b)).1), vB true] [none] := by
        have h := tx6 (d := bmD b)
        rwa [hO] at h
      have hS : T 11 [.val true (dskC false (bmD b))] [(true, metC (bestM (bmD b)).1), vB true] [none] := by
        have h := tx11 (d := bmD b)
        rwa [hO] at h
      repeat' ((conv => whnf); (first | (apply cx4; refine kl (hB) ?_) | (apply cx5; refine kl (tx5 (b := b)) ?_) | (apply cx6; refine kl (hI) ?_) | refine k0 ?_ | refine jA fun _ => ?_ | refine jB fun _ => ?_ | refine kC (fun _ => ?_) fun _ => ?_ | refine jS ?_ | refine jI ?_ | (apply cx4; refine kl tx4 ?_) | (apply cx5; refine kl tx5 ?_) | (apply cx6; refine kl tx6 ?_) | (apply cx7; refine kl tx7 ?_) | (apply cx8; refine kl tx8 ?_) | (apply cx9; refine kl tx9 ?_) | (apply cx10; refine kl tx10 ?_) | (apply cx11; refine kl tx11 ?_) | (apply cx12; refine kl tx12 ?_) | refine jD ?_ | refine ⟨snc, _, snr, ?_⟩ | refine ⟨⟨Nat.le_refl _, rfl⟩, [], rfl, ?_⟩ | refine And.intro ⟨rfl, rfl, by decide, rfl⟩ ?_ | refine jP ?_ | refine jO ?_ | refine jX ?_ | refine jb jr ?_ | refine jb ofs ?_ | refine ko jc ?_ | refine ko jp ?_ | refine jM ?_ | refine kr ?_ | refine ko rfl ?_ | refine And.intro (cs_shal _) ?_ | refine And.intro (rfl : List.all _ _ = true) ?_ | refine And.intro ⟨rfl, (rfl : List.all _ _ = true)⟩ ?_ | exact ⟨rfl, rfl⟩ | exact jV | fail))
      conv => whnf
      refine loopk (ι := Nat) (fun i => i ≤ 2) (fun i => 2 - i) (0) [0, 3, 4, 5] (fun i => [(6, .v false [i6 i])]) [none, none, none] ?_
      refine ⟨by omega, ?_, fun i hi => ?_⟩
      · exact jw []
      · repeat' ((conv => whnf); (first | refine k0 ?_ | refine jS ?_ | refine jI ?_ | (apply cx4; refine kl tx4 ?_) | (apply cx5; refine kl tx5 ?_) | (apply cx6; refine kl tx6 ?_) | (apply cx7; refine kl tx7 ?_) | (apply cx8; refine kl tx8 ?_) | (apply cx9; refine kl tx9 ?_) | (apply cx10; refine kl tx10 ?_) | (apply cx11; refine kl tx11 ?_) | (apply cx12; refine kl tx12 ?_) | refine jD ?_ | refine ⟨snc, _, snr, ?_⟩ | refine ⟨⟨Nat.le_refl _, rfl⟩, [], rfl, ?_⟩ | refine And.intro ⟨rfl, rfl, by decide, rfl⟩ ?_ | refine jP ?_ | refine jO ?_ | refine jX ?_ | refine jb jr ?_ | refine jb ofs ?_ | refine ko jc ?_ | refine ko jp ?_ | refine jM ?_ | refine kr ?_ | refine ko rfl ?_ | refine And.intro (cs_shal _) ?_ | refine And.intro (rfl : List.all _ _ = true) ?_ | refine And.intro ⟨rfl, (rfl : List.all _ _ = true)⟩ ?_ | exact ⟨rfl, rfl⟩ | exact jV | fail))
        conv => whnf
        refine ⟨fun hlt => ?_, fun hge => ?_⟩
        · have hrl := rdS_len (d := bmD b) (n := (i : Int))
          have hmx := bestM_max (d := bmD b) (i := i) (by omega)
          have hR : T 7 [.val true (dskC false (bmD b)), aI i] [vE (rdS (bmD b) i).1, vB true] [none, none] := by
            have h := tx7 (d := bmD b) (n := (i : Int))
            rwa [show (rdS (bmD b) (i : Int)).2 = true by rw [rdS_in (by omega)]] at h
          by_cases q1 : (gM (rdS (bmD b) i).1).2 = true
          · have hG : T 8 [aE (rdS (bmD b) i).1] [(true, metC (gM (rdS (bmD b) i).1).1), vB true] [none] := by
              have h := tx8 (b := (rdS (bmD b) i).1) (by omega)
              rwa [q1] at h
            by_cases q2 : (gM (rdS (bmD b) i).1).1.gen.tmod 2 = i
            · have hle := hmx q1 q2
              have hle2 := hle.2
              repeat' ((conv => whnf); (first | (apply cx7; refine kl (hR) ?_) | (apply cx8; refine kl (hG) ?_) | refine And.intro (by decide) (Exists.intro _ (And.intro q2 ?_)) | refine k0 ?_ | refine jA fun _ => ?_ | refine jB fun _ => ?_ | refine kC (fun _ => ?_) fun _ => ?_ | refine jS ?_ | refine jI ?_ | (apply cx4; refine kl tx4 ?_) | (apply cx5; refine kl tx5 ?_) | (apply cx6; refine kl tx6 ?_) | (apply cx7; refine kl tx7 ?_) | (apply cx8; refine kl tx8 ?_) | (apply cx9; refine kl tx9 ?_) | (apply cx10; refine kl tx10 ?_) | (apply cx11; refine kl tx11 ?_) | (apply cx12; refine kl tx12 ?_) | refine jD ?_ | refine ⟨snc, _, snr, ?_⟩ | refine ⟨⟨Nat.le_refl _, rfl⟩, [], rfl, ?_⟩ | refine And.intro ⟨rfl, rfl, by decide, rfl⟩ ?_ | refine jP ?_ | refine jO ?_ | refine jX ?_ | refine jb jr ?_ | refine jb ofs ?_ | refine ko jc ?_ | refine ko jp ?_ | refine jM ?_ | refine kr ?_ | refine ko rfl ?_ | refine And.intro (cs_shal _) ?_ | refine And.intro (rfl : List.all _ _ = true) ?_ | refine And.intro ⟨rfl, (rfl : List.all _ _ = true)⟩ ?_ | exact ⟨rfl, rfl⟩ | exact jV | fail))
              refine ⟨⟨i + 1, by omega⟩, by simp only; omega, ?_⟩
              exact jw []
            · repeat' ((conv => whnf); (first | (apply cx7; refine kl (hR) ?_) | (apply cx8; refine kl (hG) ?_) | refine And.intro (by decide) (Exists.intro _ (And.intro rfl ?_)) | refine k0 ?_ | refine jA fun _ => ?_ | refine jB fun _ => ?_ | refine kC (fun _ => ?_) fun _ => ?_ | refine jS ?_ | refine jI ?_ | (apply cx4; refine kl tx4 ?_) | (apply cx5; refine kl tx5 ?_) | (apply cx6; refine kl tx6 ?_) | (apply cx7; refine kl tx7 ?_) | (apply cx8; refine kl tx8 ?_) | (apply cx9; refine kl tx9 ?_) | (apply cx10; refine kl tx10 ?_) | (apply cx11; refine kl tx11 ?_) | (apply cx12; refine kl tx12 ?_) | refine jD ?_ | refine ⟨snc, _, snr, ?_⟩ | refine ⟨⟨Nat.le_refl _, rfl⟩, [], rfl, ?_⟩ | refine And.intro ⟨rfl, rfl, by decide, rfl⟩ ?_ | refine jP ?_ | refine jO ?_ | refine jX ?_ | refine jb jr ?_ | refine jb ofs ?_ | refine ko jc ?_ | refine ko jp ?_ | refine jM ?_ | refine kr ?_ | refine ko rfl ?_ | refine And.intro (cs_shal _) ?_ | refine And.intro (rfl : List.all _ _ = true) ?_ | refine And.intro ⟨rfl, (rfl : List.all _ _ = true)⟩ ?_ | exact ⟨rfl, rfl⟩ | exact jV | fail))
              refine ⟨⟨i + 1, by omega⟩, by simp only; omega, ?_⟩
              exact jw []
          · have q1f : (gM (rdS (bmD b) i).1).2 = false := by cases e : (gM (rdS (bmD b) i).1).2 with
              | true => exact absurd e q1
              | false => rfl
            have hG : T 8 [aE (rdS (bmD b) i).1] [(true, metC (gM (rdS (bmD b) i).1).1), vB false] [none] := by
              have h := tx8 (b := (rdS (bmD b) i).1) (by omega)
              rwa [q1f] at h
            repeat' ((conv => whnf); (first | (apply cx7; refine kl (hR) ?_) | (apply cx8; refine kl (hG) ?_) | refine k0 ?_ | refine jA fun _ => ?_ | refine jB fun _ => ?_ | refine kC (fun _ => ?_) fun _ => ?_ | refine jS ?_ | refine jI ?_ | (apply cx4; refine kl tx4 ?_) | (apply cx5; refine kl tx5 ?_) | (apply cx6; refine kl tx6 ?_) | (apply cx7; refine kl tx7 ?_) | (apply cx8; refine kl tx8 ?_) | (apply cx9; refine kl tx9 ?_) | (apply cx10; refine kl tx10 ?_) | (apply cx11; refine kl tx11 ?_) | (apply cx12; refine kl tx12 ?_) | refine jD ?_ | refine ⟨snc, _, snr, ?_⟩ | refine ⟨⟨Nat.le_refl _, rfl⟩, [], rfl, ?_⟩ | refine And.intro ⟨rfl, rfl, by decide, rfl⟩ ?_ | refine jP ?_ | refine jO ?_ | refine jX ?_ | refine jb jr ?_ | refine jb ofs ?_ | refine ko jc ?_ | refine ko jp ?_ | refine jM ?_ | refine kr ?_ | refine ko rfl ?_ | refine And.intro (cs_shal _) ?_ | refine And.intro (rfl : List.all _ _ = true) ?_ | refine And.intro ⟨rfl, (rfl : List.all _ _ = true)⟩ ?_ | exact ⟨rfl, rfl⟩ | exact jV | fail))
            refine ⟨⟨i + 1, by omega⟩, by simp only; omega, ?_⟩
            exact jw []
        · obtain rfl : i = 2 := by omega
          by_cases hs : 0 < (fmtD (ddC b).1 (ddC b).2).secs.length
          · have hF : T 6 [.val true (dskC false (fmtD (ddC b).1 (ddC b).2))] [(true, metC ⟨0, 0⟩), vB true] [none] := by
              have h := tx6 (d := fmtD (ddC b).1 (ddC b).2) hfz.1
              rw [hbf1, hbf2, decide_eq_true hs] at h; exact h
            repeat' ((conv => whnf); (first | (apply cx9; refine kl (tx9 (b := b)) ?_) | (apply cx10; refine kl (tx10 (n := (ddC b).1) (l := (ddC b).2)) ?_) | (apply cx12; refine kl (tx12 (n := (ddC b).1) (l := (ddC b).2)) ?_) | (apply cx6; refine kl (hF) ?_) | (apply cx11; refine kl (hS) ?_) | refine ko eqM_y ?_ | refine k0 ?_ | refine jA fun _ => ?_ | refine jB fun _ => ?_ | refine kC (fun _ => ?_) fun _ => ?_ | refine jS ?_ | refine jI ?_ | (apply cx4; refine kl tx4 ?_) | (apply cx5; refine kl tx5 ?_) | (apply cx6; refine kl tx6 ?_) | (apply cx7; refine kl tx7 ?_) | (apply cx8; refine kl tx8 ?_) | (apply cx9; refine kl tx9 ?_) | (apply cx10; refine kl tx10 ?_) | (apply cx11; refine kl tx11 ?_) | (apply cx12; refine kl tx12 ?_) | refine jD ?_ | refine ⟨snc, _, snr, ?_⟩ | refine ⟨⟨Nat.le_refl _, rfl⟩, [], rfl, ?_⟩ | refine And.intro ⟨rfl, rfl, by decide, rfl⟩ ?_ | refine jP ?_ | refine jO ?_ | refine jX ?_ | refine jb jr ?_ | refine jb ofs ?_ | refine ko jc ?_ | refine ko jp ?_ | refine jM ?_ | refine kr ?_ | refine ko rfl ?_ | refine And.intro (cs_shal _) ?_ | refine And.intro (rfl : List.all _ _ = true) ?_ | refine And.intro ⟨rfl, (rfl : List.all _ _ = true)⟩ ?_ | exact ⟨rfl, rfl⟩ | exact jV | fail))
          · have hF : T 6 [.val true (dskC false (fmtD (ddC b).1 (ddC b).2))] [(true, metC ⟨0, 0⟩), vB false] [none] := by
              have h := tx6 (d := fmtD (ddC b).1 (ddC b).2) hfz.1
              rw [hbf1, hbf2, decide_eq_false hs] at h; exact h
            repeat' ((conv => whnf); (first | (apply cx9; refine kl (tx9 (b := b)) ?_) | (apply cx10; refine kl (tx10 (n := (ddC b).1) (l := (ddC b).2)) ?_) | (apply cx12; refine kl (tx12 (n := (ddC b).1) (l := (ddC b).2)) ?_) | (apply cx6; refine kl (hF) ?_) | (apply cx11; refine kl (hS) ?_) | refine ko eqM_y ?_ | refine k0 ?_ | refine jA fun _ => ?_ | refine jB fun _ => ?_ | refine kC (fun _ => ?_) fun _ => ?_ | refine jS ?_ | refine jI ?_ | (apply cx4; refine kl tx4 ?_) | (apply cx5; refine kl tx5 ?_) | (apply cx6; refine kl tx6 ?_) | (apply cx7; refine kl tx7 ?_) | (apply cx8; refine kl tx8 ?_) | (apply cx9; refine kl tx9 ?_) | (apply cx10; refine kl tx10 ?_) | (apply cx11; refine kl tx11 ?_) | (apply cx12; refine kl tx12 ?_) | refine jD ?_ | refine ⟨snc, _, snr, ?_⟩ | refine ⟨⟨Nat.le_refl _, rfl⟩, [], rfl, ?_⟩ | refine And.intro ⟨rfl, rfl, by decide, rfl⟩ ?_ | refine jP ?_ | refine jO ?_ | refine jX ?_ | refine jb jr ?_ | refine jb ofs ?_ | refine ko jc ?_ | refine ko jp ?_ | refine jM ?_ | refine kr ?_ | refine ko rfl ?_ | refine And.intro (cs_shal _) ?_ | refine And.intro (rfl : List.all _ _ = true) ?_ | refine And.intro ⟨rfl, (rfl : List.all _ _ = true)⟩ ?_ | exact ⟨rfl, rfl⟩ | exact jV | fail))

theorem cx3 {P : Program} {X : FuncId → List Arg → List (Bool × List Cell) → List (Option (List Cell)) → Prop} {a : List Arg} {Q : List (Bool × List Cell) → List (Option (List Cell)) → Prop} (h : ∃ b vals outs, a = b ∧ D P X (.call 3 b vals outs) ∧ Q vals outs) : CallS P X 3 a Q := ⟨h⟩

end Go.Proofs.Ytmphoefccibibaa
