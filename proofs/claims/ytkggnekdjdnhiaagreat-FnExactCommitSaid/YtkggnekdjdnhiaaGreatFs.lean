/- Functions of the program, each with what it gives back. -/
import Derived.Test.YtkggnekdjdnhiaaGreatKe
import Derived.Test.YtkggnekdjdnhiaaGreatChecked
import Derived.IntWalk
import Derived.Test.YtkggnekdjdnhiaaGreatFr
namespace Go.Proofs.YtkggnekdjdnhiaaGreat
open Go Go.RowKit Go.IntWalk
open Enc (sz cs)
attribute [local irreducible] IntKind.wrap

attribute [local irreducible] gU gT gS gP gM ptP ptM ptS crcN rdS bdN gN pgA ndA vis
/-- All pairs. -/
noncomputable def prsF (t : Txn) : List Pai := (vis t (zT t) t.root ([], [])).2
theorem prsF_len {t : Txn} (ht : zT t ≤ 1100000) : (prsF t).length ≤ 1210400000000 := by
  have h := vis_b t (zT t) t.root ([], [])
  have h1 := lft_le t []
  have h2 := h.c (by simp)
  have h3 := h.b
  dsimp only at h3
  unfold prsF
  exact Nat.le_trans h2 (Nat.le_trans (Nat.mul_le_mul (show (vis t (zT t) t.root ([], [])).1.length ≤ 1100000 by simp at h3; omega) (show zT t + 240 ≤ 1100240 by omega)) (by decide))
/-- A nil slice within a node, as one without elements of the node's own. -/
theorem w_nilI {n : Nat} {t h nx tn} (i s' : Nat) (A C : List Cell) {cs0 cs1 : List Cell} (hi : look none h i = some (true, cs0) := by rfl) (h1 : cs0 = A ++ [.nil] ++ C := by first | rfl | simp) (h2 : A ++ [.sl true 0 s' []] ++ C = cs1 := by rfl) :
    WGh n ⟨t, h, nx, tn⟩ ⟨t, (i, some (true, cs1)) :: h, nx, tn⟩ := by
  subst h1 h2
  exact w_node i hi (CWs.app (CWs.app (CWs.refl _) (.cons .nilO .nil)) (CWs.refl _))

set_option maxRecDepth 100000 in
theorem tx34 {t : Txn} (ht : zT t ≤ 1100000 := by first | assumption | omega | (simp; done) | (simp; omega)) : T 34 [.val true (txnC false t)] [vE (prsF t)] [none] := by
  refine w_call md [] Tryz.func34 rfl ?_
  have h1 := lft_le t []
  have hv : T 84 [.own true 0 0 (cVis t ([], [])), aI t.root] [] [some (cVis t (vis t (zT t) t.root ([], []))), none] := tx84 (f := zT t) (s := ([], [])) (h2 := by simp; omega) (h3 := by simp)
  repeat' ((conv => whnf); (first | refine jA fun _ => ?_ | refine jB fun _ => ?_ | refine kC (fun _ => ?_) fun _ => ?_ | (apply cx84; refine kl tx84 ?_) | refine jst ?_ | exact ⟨rfl, rfl⟩ | exact jV | fail))
  refine k0 ?_
  repeat' ((conv => whnf); (first | refine jA fun _ => ?_ | refine jB fun _ => ?_ | refine kC (fun _ => ?_) fun _ => ?_ | (apply cx84; refine kl tx84 ?_) | refine jst ?_ | exact ⟨rfl, rfl⟩ | exact jV | fail))
  conv => whnf
  refine bstep (w_nilI 2 1 (txnC false t) [.nil]) ?_
  refine bstep (w_nilI 2 2 (txnC false t ++ [slE true ([] : List Int)]) []) ?_
  refine k0 ?_
  repeat' ((conv => whnf); (first | (apply cx84; refine kl (hv) ?_) | refine jA fun _ => ?_ | refine jB fun _ => ?_ | refine kC (fun _ => ?_) fun _ => ?_ | (apply cx84; refine kl tx84 ?_) | refine jst ?_ | exact ⟨rfl, rfl⟩ | exact jV | fail))
  conv => whnf
  refine bstep (w_outE 2 (txnC false t ++ [slE true (vis t (zT t) t.root ([], [])).1]) (vis t (zT t) t.root ([], [])).2 [] 2) ?_
  repeat' ((conv => whnf); (first | refine k0 ?_ | refine jA fun _ => ?_ | refine jB fun _ => ?_ | refine kC (fun _ => ?_) fun _ => ?_ | (apply cx84; refine kl tx84 ?_) | refine jst ?_ | exact ⟨rfl, rfl⟩ | exact jV | fail))

theorem cx34 {P : Program} {X : FuncId → List Arg → List (Bool × List Cell) → List (Option (List Cell)) → Prop} {a : List Arg} {Q : List (Bool × List Cell) → List (Option (List Cell)) → Prop} (h : ∃ b vals outs, a = b ∧ D P X (.call 34 b vals outs) ∧ Q vals outs) : CallS P X 34 a Q := ⟨h⟩

set_option maxRecDepth 100000 in
theorem tx30 {t : Txn} (ht : zT t ≤ 1100000 := by first | assumption | omega | (simp; done) | (simp; omega)) : T 30 [.val true (txnC false t)] [vE (prsF t)] [none] := by
  refine w_call md [] Tryz.func30 rfl ?_
  have h1 := lft_le t []
  have hv : T 79 [.val true (txnC false t), aI t.root, .own true 0 0 [slE true ([] : List Pai)], .own true 0 0 [slE true ([] : List Int)]] [] [none, none, some [slE true (vis t (zT t) t.root ([], [])).2], some [slE true (vis t (zT t) t.root ([], [])).1]] := tx79 (f := zT t) (s := ([], [])) (h2 := by simp; omega) (h3 := by simp)
  repeat' ((conv => whnf); (first | refine jA fun _ => ?_ | refine jB fun _ => ?_ | refine kC (fun _ => ?_) fun _ => ?_ | (apply cx79; refine kl tx79 ?_) | refine jst ?_ | exact ⟨rfl, rfl⟩ | exact jV | fail))
  refine k0 ?_
  repeat' ((conv => whnf); (first | refine jA fun _ => ?_ | refine jB fun _ => ?_ | refine kC (fun _ => ?_) fun _ => ?_ | (apply cx79; refine kl tx79 ?_) | refine jst ?_ | exact ⟨rfl, rfl⟩ | exact jV | fail))
  refine k0 ?_
  repeat' ((conv => whnf); (first | refine jA fun _ => ?_ | refine jB fun _ => ?_ | refine kC (fun _ => ?_) fun _ => ?_ | (apply cx79; refine kl tx79 ?_) | refine jst ?_ | exact ⟨rfl, rfl⟩ | exact jV | fail))
  conv => whnf
  refine bstep (w_inE 3 2 [] ([] : List Pai) [] 0 2 rfl) ?_
  refine bstep (w_inE 5 4 [] ([] : List Int) [] 0 1 rfl) ?_
  refine k0 ?_
  repeat' ((conv => whnf); (first | (apply cx79; refine kl (hv) ?_) | refine jA fun _ => ?_ | refine jB fun _ => ?_ | refine kC (fun _ => ?_) fun _ => ?_ | (apply cx79; refine kl tx79 ?_) | refine jst ?_ | exact ⟨rfl, rfl⟩ | exact jV | fail))
  conv => whnf
  refine bstep (w_outE 3 [] (vis t (zT t) t.root ([], [])).2 [] 2) ?_
  repeat' ((conv => whnf); (first | refine k0 ?_ | refine jA fun _ => ?_ | refine jB fun _ => ?_ | refine kC (fun _ => ?_) fun _ => ?_ | (apply cx79; refine kl tx79 ?_) | refine jst ?_ | exact ⟨rfl, rfl⟩ | exact jV | fail))

theorem cx30 {P : Program} {X : FuncId → List Arg → List (Bool × List Cell) → List (Option (List Cell)) → Prop} {a : List Arg} {Q : List (Bool × List Cell) → List (Option (List Cell)) → Prop} (h : ∃ b vals outs, a = b ∧ D P X (.call 30 b vals outs) ∧ Q vals outs) : CallS P X 30 a Q := ⟨h⟩

theorem zT_tx (d : Dsk) : zT (txN d) ≤ zD d := by
  cases h : (bestM d).2 with
  | false => rw [txN_no h]; simp [zT, zD, zBS, zWS, zFrS, cnt]
  | true => rw [txN_yes h]; simp [zT, zD, zBS, zWS, zFrS, cnt]

end Go.Proofs.YtkggnekdjdnhiaaGreat
