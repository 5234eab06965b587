/- Functions of the program, each with what it gives back. -/
import Derived.Test.YtmphoefccibibaaKe
import Derived.Test.YtmphoefccibibaaChecked
import Derived.IntWalk
import Derived.Test.YtmphoefccibibaaFr
namespace Go.Proofs.Ytmphoefccibibaa
open Go Go.RowKit Go.IntWalk
open Enc (sz cs)
attribute [local irreducible] IntKind.wrap

attribute [local irreducible] gU gT gS gP gM ptP ptM ptS crcN rdS bdN gN pgA ndA vis
/-- All pairs. -/
noncomputable def prsF (t : Txn) : List Pai := (vis t (zT t) t.root ([], [])).2
theorem prsF_len {t : Txn} (ht : zT t ≤ 1100000) : (prsF t).length ≤ 1210400000000 := by
  have h := vis_b t (zT t) t.root ([], [])
  have h1 := lft_le t []
  have h2 := h.c (by simp)
  have h3 := h.b
  dsimp only at h3
  unfold prsF
  exact Nat.le_trans h2 (Nat.le_trans (Nat.mul_le_mul (show (vis t (zT t) t.root ([], [])).1.length ≤ 1100000 by simp at h3; omega) (show zT t + 240 ≤ 1100240 by omega)) (by decide))
/-- A nil slice within a node, as one without elements of the node's own. -/
theorem w_nilI {n : Nat} {t h nx tn} (i s' : Nat) (A C : List Cell) {cs0 cs1 : List Cell} (hi : look none h i = some (true, cs0) := by rfl) (h1 : cs0 = A ++ [.nil] ++ C := by first | rfl | simp) (h2 : A ++ [.sl true 0 s' []] ++ C = cs1 := by rfl) :
    WGh n ⟨t, h, nx, tn⟩ ⟨t, (i, some (true, cs1)) :: h, nx, tn⟩ := by
  subst h1 h2
  exact w_node i hi (CWs.app (CWs.app (CWs.refl _) (.cons .nilO .nil)) (CWs.refl _))

theorem zT_tx (d : Dsk) : zT (txN d) ≤ zD d := by
  cases h : (bestM d).2 with
  | false => rw [txN_no h]; simp [zT, zD, zBS, zWS, zFrS, cnt]
  | true => rw [txN_yes h]; simp [zT, zD, zBS, zWS, zFrS, cnt]

end Go.Proofs.Ytmphoefccibibaa
