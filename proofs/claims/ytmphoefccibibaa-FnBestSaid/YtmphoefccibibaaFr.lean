/- Functions of the program, each with what it gives back. -/
import Derived.Test.YtmphoefccibibaaKe
import Derived.Test.YtmphoefccibibaaChecked
import Derived.IntWalk
import Derived.Test.YtmphoefccibibaaFq
namespace Go.Proofs.Ytmphoefccibibaa
open Go Go.RowKit Go.IntWalk
open Enc (sz cs)
attribute [local irreducible] IntKind.wrap

attribute [local irreducible] gU gT gS gP gM ptP ptM ptS crcN rdS bdN gN pgA ndA
/-- The pairs of a leaf. -/
def prsN (x : Nod) : List Pai := if x.leaf then (x.keys.zip x.vals).map (fun p => ⟨p.1, p.2⟩) else []
/-- Gathers the pairs below a sector; what was met, what was gathered. -/
noncomputable def vis (t : Txn) : Nat → Int → List Int × List Pai → List Int × List Pai
  | 0, _, s => s
  | f + 1, n, s => if (ndA t n).2 = false ∨ hasI s.1 n = true then s else (ndA t n).1.kids.foldl (fun s k => vis t f k s) (s.1 ++ [n], s.2 ++ prsN (ndA t n).1)
/-- The sectors that can be there. -/
def univ (t : Txn) : List Int := (List.range t.d.secs.length).map (fun (i : Nat) => (i : Int)) ++ t.new.map (·.n)
theorem univ_len (t : Txn) : (univ t).length ≤ zT t := by
  have h1 := zT_d (t := t)
  unfold univ zT zD zBS zFrS at *
  simp; omega
theorem ndD_in {d : Dsk} {n : Int} (h : (ndD d n).2 = true) : 0 ≤ n ∧ n < d.secs.length := by
  unfold ndD at h
  split at h
  · rename_i h1
    unfold pgA at h1
    split at h1
    · rename_i h2
      refine Decidable.byContradiction fun h3 => ?_
      rw [rdS_out h3] at h2
      simp at h2
    · simp at h1
  · simp at h
theorem ndA_univ {t : Txn} {n : Int} (h : (ndA t n).2 = true) : n ∈ univ t := by
  unfold univ
  rcases nwI_cases n t.new with ⟨h1, _⟩ | ⟨i, hi, _, h2⟩
  · rw [ndA_old h1] at h
    have := ndD_in h
    refine List.mem_append_left _ (List.mem_map.2 ⟨n.toNat, by simp; omega, by omega⟩)
  · exact List.mem_append_right _ (List.mem_map.2 ⟨_, List.getElem_mem hi, h2⟩)
/-- How many are not met yet. -/
def lft (t : Txn) (met : List Int) : Nat := (univ t).countP (fun n => !hasI met n)
theorem lft_le (t : Txn) (met : List Int) : lft t met ≤ zT t := Nat.le_trans List.countP_le_length (univ_len t)
theorem hasI_app (a b : List Int) (n : Int) : hasI (a ++ b) n = (hasI a n || hasI b n) := by unfold hasI; simp
theorem lft_mono (t : Txn) (a b : List Int) : lft t (a ++ b) ≤ lft t a := by
  refine List.countP_mono_left fun n _ h => ?_
  rw [hasI_app] at h
  cases e : hasI a n with
  | false => rfl
  | true => rw [e] at h; simp at h
theorem countP_lt {α : Type} {p q : α → Bool} {l : List α} {x : α} (hx : x ∈ l) (h : ∀ y ∈ l, p y = true → q y = true) (h1 : p x = false) (h2 : q x = true) : l.countP p + 1 ≤ l.countP q := by
  induction l with
  | nil => cases hx
  | cons y l ih =>
    rw [List.countP_cons, List.countP_cons]
    rcases List.mem_cons.1 hx with rfl | hx
    · have := List.countP_mono_left (l := l) (p := p) (q := q) (fun y hy => h y (List.mem_cons_of_mem _ hy))
      rw [h1, h2]; simp; omega
    · have := ih hx (fun y hy => h y (List.mem_cons_of_mem _ hy))
      have h3 := h y List.mem_cons_self
      cases e : p y with
      | false => simp; omega
      | true => rw [h3 e]; simp; omega
theorem lft_lt {t : Txn} {n : Int} {met : List Int} (h : (ndA t n).2 = true) (h1 : hasI met n = false) : lft t (met ++ [n]) + 1 ≤ lft t met := by
  refine countP_lt (ndA_univ h) (fun m _ hm => ?_) ?_ ?_
  · rw [hasI_app] at hm
    cases e : hasI met m with
    | false => rfl
    | true => rw [e] at hm; simp at hm
  · rw [hasI_app]; simp [hasI]
  · rw [h1]; rfl
theorem prsN_len (x : Nod) : (prsN x).length ≤ zN x := by
  have := cN_le x
  unfold prsN
  split
  · simp; omega
  · simp
/-- What stays true of what was met, and gathered. -/
structure VisB (t : Txn) (s s' : List Int × List Pai) : Prop where
  a : lft t s'.1 ≤ lft t s.1
  b : s'.1.length + lft t s'.1 ≤ s.1.length + lft t s.1
  c : s.2.length ≤ s.1.length * (zT t + 240) → s'.2.length ≤ s'.1.length * (zT t + 240)
theorem VisB.refl (t : Txn) (s) : VisB t s s := ⟨Nat.le_refl _, Nat.le_refl _, id⟩
theorem VisB.trans {t : Txn} {s s' s''} (h : VisB t s s') (k : VisB t s' s'') : VisB t s s'' := ⟨Nat.le_trans k.a h.a, Nat.le_trans k.b h.b, fun x => k.c (h.c x)⟩
theorem VisB.fold {t : Txn} {g : List Int × List Pai → Int → List Int × List Pai} (h : ∀ s k, VisB t s (g s k)) : ∀ (l : List Int) (s), VisB t s (l.foldl g s)
  | [], s => .refl t s
  | k :: l, s => (h s k).trans (VisB.fold h l _)
theorem vis_in {t : Txn} {n : Int} {s : List Int × List Pai} (h : (ndA t n).2 = true) (h1 : hasI s.1 n = false) : VisB t s (s.1 ++ [n], s.2 ++ prsN (ndA t n).1) := by
  have h2 := lft_lt h h1
  refine ⟨by dsimp only; omega, by simp; omega, fun h3 => ?_⟩
  have h4 := prsN_len (ndA t n).1
  have h5 := ndA_len t n
  simp only [List.length_append, List.length_singleton, Nat.add_mul, Nat.one_mul]
  omega
theorem vis_b (t : Txn) : ∀ (f : Nat) (n : Int) (s : List Int × List Pai), VisB t s (vis t f n s)
  | 0, _, s => .refl t s
  | f + 1, n, s => by
    rw [vis]
    split
    · exact .refl t s
    · rename_i h
      have h1 : (ndA t n).2 = true := by cases e : (ndA t n).2 <;> simp_all
      have h2 : hasI s.1 n = false := by cases e : hasI s.1 n <;> simp_all
      exact (vis_in h1 h2).trans (VisB.fold (fun s k => vis_b t f k s) _ _)
theorem vis_no {t : Txn} {f : Nat} {n : Int} {s : List Int × List Pai} (h : (ndA t n).2 = false ∨ hasI s.1 n = true) : vis t f n s = s := by
  cases f with
  | zero => rfl
  | succ f => rw [vis, if_pos h]
theorem vis_go {t : Txn} {f : Nat} {n : Int} {s : List Int × List Pai} (h : (ndA t n).2 = true) (h1 : hasI s.1 n = false) : vis t (f + 1) n s = (ndA t n).1.kids.foldl (fun s k => vis t f k s) (s.1 ++ [n], s.2 ++ prsN (ndA t n).1) := by
  rw [vis, if_neg (by rw [h, h1]; simp)]
theorem lft_pos {t : Txn} {n : Int} {met : List Int} (h : (ndA t n).2 = true) (h1 : hasI met n = false) : 0 < lft t met := by
  have := lft_lt h h1; omega
theorem bgP {n b : Nat} (h : n ≤ 1300000000000) (hb : Nat.ble b 100 = true := by rfl) : n * b ≤ bigB := by
  have h2 := Nat.le_of_ble_eq_true hb
  have := Nat.mul_le_mul h h2
  unfold bigB; omega
theorem bgQ {n : Nat} (h : n ≤ 1300000000000) : n ≤ bigB := by unfold bigB; omega
theorem bfin {n : Nat} {τ τ' : W} {P : Program} {fn : Func} {zs : List (List Nat)} {ar : List Arg} {K : List (Bool × List Cell) → List (Option (List Cell)) → Prop} (h : WGh n τ τ') (hq : ∃ τ1, WGh n τ' τ1 ∧ finW P fn zs τ1 ar K) : ∃ τ1, WGh n τ τ1 ∧ finW P fn zs τ1 ar K := bstep h hq
theorem apP {o : Bool} {s n : Nat} {K : List Cell → Nat → Prop} {xs : List Pai} {k v : ByteArray} (h : K (cs o (xs ++ [(⟨k, v⟩ : Pai)])) (xs ++ [(⟨k, v⟩ : Pai)]).length) (hn : xs.length = n := by first | rfl | simp) (hs : sz Pai = s := by rfl) :
    ∃ N', ((cs o xs).drop 0).take (n * s) ++ [s1 k, s1 v] = N' ∧ ∃ q, n + 1 = q ∧ K N' q := apE (ys := [⟨k, v⟩]) h rfl rfl hn hs
/-- The first pairs of a leaf. -/
def prsT (x : Nod) (i : Nat) : List Pai := (prsN x).take i
theorem prsT_no {x : Nod} (h : x.leaf = false) (i : Nat) : prsT x i = [] := by unfold prsT prsN; rw [h]; simp
theorem prsT_suc {x : Nod} {i : Nat} (h : x.leaf = true) (hk : i < x.keys.length) (hv : i < x.vals.length) : prsT x (i + 1) = prsT x i ++ [⟨x.keys[i], x.vals[i]⟩] := by
  unfold prsT prsN
  rw [h]
  simp only [if_true]
  rw [take_one (by simp; omega)]
  simp
theorem prsT_all {x : Nod} {i : Nat} (h : min x.keys.length x.vals.length ≤ i) : prsT x i = prsN x := by
  unfold prsT
  refine List.take_of_length_le ?_
  unfold prsN
  split
  · simp; omega
  · simp
theorem prsT_len (x : Nod) (i : Nat) : (prsT x i).length ≤ i := by unfold prsT; simp; omega
abbrev cVis (t : Txn) (s : List Int × List Pai) : List Cell := [slE false t.d.secs, slE false t.d.cache, i6 t.d.ops, slE false t.d.faults, b1 t.d.down, i6 t.m.gen, i6 t.m.root, i6 t.root, slE false t.new, slE true s.1, slE true s.2]

end Go.Proofs.Ytmphoefccibibaa
