/- Functions of the program, each with what it gives back. -/
import Derived.Test.YtkggnekdjdnhiaaGreatKe
import Derived.Test.YtkggnekdjdnhiaaGreatChecked
import Derived.IntWalk
import Derived.Test.YtkggnekdjdnhiaaGreatLh
import Derived.Test.YtkggnekdjdnhiaaGreatLa
import Derived.Test.YtkggnekdjdnhiaaGreatLd
import Derived.Test.YtkggnekdjdnhiaaGreatLe
import Derived.Test.YtkggnekdjdnhiaaGreatGd
namespace Go.Proofs.YtkggnekdjdnhiaaGreat
open Go Go.RowKit Go.IntWalk
open Enc (sz cs)
attribute [local irreducible] IntKind.wrap

theorem flS_ok {a : Dsk × Int} (h : DskOk a.1) : DskOk (flS a).1 := by
  by_cases e : a.2 = 0
  · rw [flS_y e]; exact (flD_ok h).1.ok
  · rw [flS_n e]; exact h
theorem cmT_small (t : Txn) : zD (cmT t).1 ≤ 30000 + zT t := by
  have h1 := zT_d (t := t)
  by_cases hA : txOk t = true ∧ t.d.cache.length = 0 ∧ t.m.gen < 1000000
  · by_cases hB : t.new.length = 0 ∧ t.root = t.m.root
    · rw [cmT_eq hA hB]; simp only; omega
    · rw [cmT_yes hA hB]
      have hT := txOk_iff.1 hA.1
      have hs := hT.d.secs
      have hg := tm2 (n := t.m.gen + 1) (by have := hT.gen; omega)
      have := (flS_ok (cmS_fin (n := (t.m.gen + 1).tmod 2) (b := ptM ⟨t.m.gen + 1, t.root⟩) (flS_fin (wrL_fin hT hA.2.1)) (by omega) (ptM_256 _)).ok).small
      have e : cmW t = flS (cmS (flS (wrL t.d t.new)) ((t.m.gen + 1).tmod 2) (ptM ⟨t.m.gen + 1, t.root⟩)) := rfl
      simp only [e]; omega
  · rw [cmT_no hA]; simp only; omega
attribute [local irreducible] gU gT gS gP gM ptP ptM ptS crcN rdS bestM ndA txOk cmT

set_option maxRecDepth 100000 in
theorem tx6 {t : Txn} (hd : BdT t := by first | assumption | omega | (simp; done) | (simp; omega)) : T 6 [.val true (txnC false t)] [vB true] [none] := by
  refine w_call md [] Tryz.func6 rfl ?_
  by_cases hz : zT t ≤ 1048576
  · have ho : OkT t := .of (by omega)
    have hc := cT_le t
    have hs := cmT_small t
    have ho2 : OkD (cmT t).1 := .of (by omega)
    have hc2 := cD_le (cmT t).1
    have hS : T 7 [.val true (txnC false t), aI 1048576] [vI (1048576 - (zT t : Nat))] [none, none] := by
      have := tx7 (t := t) (n := 1048576)
      rwa [if_neg (by omega)] at this
    repeat' ((conv => whnf); (first | (apply cx7; refine kl (hS) ?_) | (apply cx12; refine kl (tx12 (t := t)) ?_) | (apply cx25; refine kl (tx25 (d := (cmT t).1)) ?_) | (apply cx13; refine kl (tx13 (t := t) (a := 1)) ?_) | (apply cx26; refine kl (tx26 (d := (cmT t).1) (a := 1)) ?_) | (apply cx27; refine kl (tx27 (d := (cmT t).1) (a := 1)) ?_) | refine k0 ?_ | refine jA fun _ => ?_ | refine jB fun _ => ?_ | refine kC (fun _ => ?_) fun _ => ?_ | refine jS ?_ | refine jI ?_ | (apply cx7; refine kl tx7 ?_) | (apply cx9; refine kl tx9 ?_) | (apply cx23; refine kl tx23 ?_) | (apply cx24; refine kl tx24 ?_) | (apply cx25; refine kl tx25 ?_) | (apply cx12; refine kl tx12 ?_) | (apply cx13; refine kl tx13 ?_) | (apply cx26; refine kl tx26 ?_) | (apply cx27; refine kl tx27 ?_) | refine jD ?_ | refine ⟨snc, _, snr, ?_⟩ | refine ⟨⟨Nat.le_refl _, rfl⟩, [], rfl, ?_⟩ | refine And.intro ⟨rfl, rfl, by decide, rfl⟩ ?_ | refine jP ?_ | refine jO ?_ | refine jX ?_ | refine jb jr ?_ | refine jb ofs ?_ | refine ko jc ?_ | refine ko jp ?_ | refine jM ?_ | refine kr ?_ | refine ko rfl ?_ | refine And.intro (cs_shal _) ?_ | refine And.intro (rfl : List.all _ _ = true) ?_ | refine And.intro ⟨rfl, (rfl : List.all _ _ = true)⟩ ?_ | exact ⟨rfl, rfl⟩ | exact jV | fail))
  · have hS : T 7 [.val true (txnC false t), aI 1048576] [vI (-1)] [none, none] := by
      have := tx7 (t := t) (n := 1048576)
      rwa [if_pos (by omega)] at this
    repeat' ((conv => whnf); (first | (apply cx7; refine kl (hS) ?_) | refine k0 ?_ | refine jA fun _ => ?_ | refine jB fun _ => ?_ | refine kC (fun _ => ?_) fun _ => ?_ | refine jS ?_ | refine jI ?_ | (apply cx7; refine kl tx7 ?_) | (apply cx9; refine kl tx9 ?_) | (apply cx23; refine kl tx23 ?_) | (apply cx24; refine kl tx24 ?_) | (apply cx25; refine kl tx25 ?_) | (apply cx12; refine kl tx12 ?_) | (apply cx13; refine kl tx13 ?_) | (apply cx26; refine kl tx26 ?_) | (apply cx27; refine kl tx27 ?_) | refine jD ?_ | refine ⟨snc, _, snr, ?_⟩ | refine ⟨⟨Nat.le_refl _, rfl⟩, [], rfl, ?_⟩ | refine And.intro ⟨rfl, rfl, by decide, rfl⟩ ?_ | refine jP ?_ | refine jO ?_ | refine jX ?_ | refine jb jr ?_ | refine jb ofs ?_ | refine ko jc ?_ | refine ko jp ?_ | refine jM ?_ | refine kr ?_ | refine ko rfl ?_ | refine And.intro (cs_shal _) ?_ | refine And.intro (rfl : List.all _ _ = true) ?_ | refine And.intro ⟨rfl, (rfl : List.all _ _ = true)⟩ ?_ | exact ⟨rfl, rfl⟩ | exact jV | fail))

theorem cx6 {P : Program} {X : FuncId → List Arg → List (Bool × List Cell) → List (Option (List Cell)) → Prop} {a : List Arg} {Q : List (Bool × List Cell) → List (Option (List Cell)) → Prop} (h : ∃ b vals outs, a = b ∧ D P X (.call 6 b vals outs) ∧ Q vals outs) : CallS P X 6 a Q := ⟨h⟩

end Go.Proofs.YtkggnekdjdnhiaaGreat
