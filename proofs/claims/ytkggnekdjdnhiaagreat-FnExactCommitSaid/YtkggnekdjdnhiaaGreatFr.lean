/- Functions of the program, each with what it gives back. -/
import Derived.Test.YtkggnekdjdnhiaaGreatKe
import Derived.Test.YtkggnekdjdnhiaaGreatChecked
import Derived.IntWalk
import Derived.Test.YtkggnekdjdnhiaaGreatFq
namespace Go.Proofs.YtkggnekdjdnhiaaGreat
open Go Go.RowKit Go.IntWalk
open Enc (sz cs)
attribute [local irreducible] IntKind.wrap

attribute [local irreducible] gU gT gS gP gM ptP ptM ptS crcN rdS bdN gN pgA ndA
/-- The pairs of a leaf. -/
def prsN (x : Nod) : List Pai := if x.leaf then (x.keys.zip x.vals).map (fun p => ⟨p.1, p.2⟩) else []
/-- Gathers the pairs below a sector; what was met, what was gathered. -/
noncomputable def vis (t : Txn) : Nat → Int → List Int × List Pai → List Int × List Pai
  | 0, _, s => s
  | f + 1, n, s => if (ndA t n).2 = false ∨ hasI s.1 n = true then s else (ndA t n).1.kids.foldl (fun s k => vis t f k s) (s.1 ++ [n], s.2 ++ prsN (ndA t n).1)
/-- The sectors that can be there. -/
def univ (t : Txn) : List Int := (List.range t.d.secs.length).map (fun (i : Nat) => (i : Int)) ++ t.new.map (·.n)
theorem univ_len (t : Txn) : (univ t).length ≤ zT t := by
  have h1 := zT_d (t := t)
  unfold univ zT zD zBS zFrS at *
  simp; omega
theorem ndD_in {d : Dsk} {n : Int} (h : (ndD d n).2 = true) : 0 ≤ n ∧ n < d.secs.length := by
  unfold ndD at h
  split at h
  · rename_i h1
    unfold pgA at h1
    split at h1
    · rename_i h2
      refine Decidable.byContradiction fun h3 => ?_
      rw [rdS_out h3] at h2
      simp at h2
    · simp at h1
  · simp at h
theorem ndA_univ {t : Txn} {n : Int} (h : (ndA t n).2 = true) : n ∈ univ t := by
  unfold univ
  rcases nwI_cases n t.new with ⟨h1, _⟩ | ⟨i, hi, _, h2⟩
  · rw [ndA_old h1] at h
    have := ndD_in h
    refine List.mem_append_left _ (List.mem_map.2 ⟨n.toNat, by simp; omega, by omega⟩)
  · exact List.mem_append_right _ (List.mem_map.2 ⟨_, List.getElem_mem hi, h2⟩)
/-- How many are not met yet. -/
def lft (t : Txn) (met : List Int) : Nat := (univ t).countP (fun n => !hasI met n)
theorem lft_le (t : Txn) (met : List Int) : lft t met ≤ zT t := Nat.le_trans List.countP_le_length (univ_len t)
theorem hasI_app (a b : List Int) (n : Int) : hasI (a ++ b) n = (hasI a n || hasI b n) := by unfold hasI; simp
theorem lft_mono (t : Txn) (a b : List Int) : lft t (a ++ b) ≤ lft t a := by
  refine List.countP_mono_left fun n _ h => ?_
  rw [hasI_app] at h
  cases e : hasI a n with
  | false => rfl
  | true => rw [e] at h; simp at h
theorem countP_lt {α : Type} {p q : α → Bool} {l : List α} {x : α} (hx : x ∈ l) (h : ∀ y ∈ l, p y = true → q y = true) (h1 : p x = false) (h2 : q x = true) : l.countP p + 1 ≤ l.countP q := by
  induction l with
  | nil => cases hx
  | cons y l ih =>
    rw [List.countP_cons, List.countP_cons]
    rcases List.mem_cons.1 hx with rfl | hx
    · have := List.countP_mono_left (l := l) (p := p) (q := q) (fun y hy => h y (List.mem_cons_of_mem _ hy))
      rw [h1, h2]; simp; omega
    · have := ih hx (fun y hy => h y (List.mem_cons_of_mem _ hy))
      have h3 := h y List.mem_cons_self
      cases e : p y with
      | false => simp; omega
      | true => rw [h3 e]; simp; omega
theorem lft_lt {t : Txn} {n : Int} {met : List Int} (h : (ndA t n).2 = true) (h1 : hasI met n = false) : lft t (met ++ [n]) + 1 ≤ lft t met := by
  refine countP_lt (ndA_univ h) (fun m _ hm => ?_) ?_ ?_
  · rw [hasI_app] at hm
    cases e : hasI met m with
    | false => rfl
    | true => rw [e] at hm; simp at hm
  · rw [hasI_app]; simp [hasI]
  · rw [h1]; rfl
theorem prsN_len (x : Nod) : (prsN x).length ≤ zN x := by
  have := cN_le x
  unfold prsN
  split
  · simp; omega
  · simp
/-- What stays true of what was met, and gathered. -/
structure VisB (t : Txn) (s s' : List Int × List Pai) : Prop where
  a : lft t s'.1 ≤ lft t s.1
  b : s'.1.length + lft t s'.1 ≤ s.1.length + lft t s.1
  c : s.2.length ≤ s.1.length * (zT t + 240) → s'.2.length ≤ s'.1.length * (zT t + 240)
theorem VisB.refl (t : Txn) (s) : VisB t s s := ⟨Nat.le_refl _, Nat.le_refl _, id⟩
theorem VisB.trans {t : Txn} {s s' s''} (h : VisB t s s') (k : VisB t s' s'') : VisB t s s'' := ⟨Nat.le_trans k.a h.a, Nat.le_trans k.b h.b, fun x => k.c (h.c x)⟩
theorem VisB.fold {t : Txn} {g : List Int × List Pai → Int → List Int × List Pai} (h : ∀ s k, VisB t s (g s k)) : ∀ (l : List Int) (s), VisB t s (l.foldl g s)
  | [], s => .refl t s
  | k :: l, s => (h s k).trans (VisB.fold h l _)
theorem vis_in {t : Txn} {n : Int} {s : List Int × List Pai} (h : (ndA t n).2 = true) (h1 : hasI s.1 n = false) : VisB t s (s.1 ++ [n], s.2 ++ prsN (ndA t n).1) := by
  have h2 := lft_lt h h1
  refine ⟨by dsimp only; omega, by simp; omega, fun h3 => ?_⟩
  have h4 := prsN_len (ndA t n).1
  have h5 := ndA_len t n
  simp only [List.length_append, List.length_singleton, Nat.add_mul, Nat.one_mul]
  omega
theorem vis_b (t : Txn) : ∀ (f : Nat) (n : Int) (s : List Int × List Pai), VisB t s (vis t f n s)
  | 0, _, s => .refl t s
  | f + 1, n, s => by
    rw [vis]
    split
    · exact .refl t s
    · rename_i h
      have h1 : (ndA t n).2 = true := by cases e : (ndA t n).2 <;> simp_all
      have h2 : hasI s.1 n = false := by cases e : hasI s.1 n <;> simp_all
      exact (vis_in h1 h2).trans (VisB.fold (fun s k => vis_b t f k s) _ _)
theorem vis_no {t : Txn} {f : Nat} {n : Int} {s : List Int × List Pai} (h : (ndA t n).2 = false ∨ hasI s.1 n = true) : vis t f n s = s := by
  cases f with
  | zero => rfl
  | succ f => rw [vis, if_pos h]
theorem vis_go {t : Txn} {f : Nat} {n : Int} {s : List Int × List Pai} (h : (ndA t n).2 = true) (h1 : hasI s.1 n = false) : vis t (f + 1) n s = (ndA t n).1.kids.foldl (fun s k => vis t f k s) (s.1 ++ [n], s.2 ++ prsN (ndA t n).1) := by
  rw [vis, if_neg (by rw [h, h1]; simp)]
theorem lft_pos {t : Txn} {n : Int} {met : List Int} (h : (ndA t n).2 = true) (h1 : hasI met n = false) : 0 < lft t met := by
  have := lft_lt h h1; omega
theorem bgP {n b : Nat} (h : n ≤ 1300000000000) (hb : Nat.ble b 100 = true := by rfl) : n * b ≤ bigB := by
  have h2 := Nat.le_of_ble_eq_true hb
  have := Nat.mul_le_mul h h2
  unfold bigB; omega
theorem bgQ {n : Nat} (h : n ≤ 1300000000000) : n ≤ bigB := by unfold bigB; omega
theorem bfin {n : Nat} {τ τ' : W} {P : Program} {fn : Func} {zs : List (List Nat)} {ar : List Arg} {K : List (Bool × List Cell) → List (Option (List Cell)) → Prop} (h : WGh n τ τ') (hq : ∃ τ1, WGh n τ' τ1 ∧ finW P fn zs τ1 ar K) : ∃ τ1, WGh n τ τ1 ∧ finW P fn zs τ1 ar K := bstep h hq
theorem apP {o : Bool} {s n : Nat} {K : List Cell → Nat → Prop} {xs : List Pai} {k v : ByteArray} (h : K (cs o (xs ++ [(⟨k, v⟩ : Pai)])) (xs ++ [(⟨k, v⟩ : Pai)]).length) (hn : xs.length = n := by first | rfl | simp) (hs : sz Pai = s := by rfl) :
    ∃ N', ((cs o xs).drop 0).take (n * s) ++ [s1 k, s1 v] = N' ∧ ∃ q, n + 1 = q ∧ K N' q := apE (ys := [⟨k, v⟩]) h rfl rfl hn hs
/-- The first pairs of a leaf. -/
def prsT (x : Nod) (i : Nat) : List Pai := (prsN x).take i
theorem prsT_no {x : Nod} (h : x.leaf = false) (i : Nat) : prsT x i = [] := by unfold prsT prsN; rw [h]; simp
theorem prsT_suc {x : Nod} {i : Nat} (h : x.leaf = true) (hk : i < x.keys.length) (hv : i < x.vals.length) : prsT x (i + 1) = prsT x i ++ [⟨x.keys[i], x.vals[i]⟩] := by
  unfold prsT prsN
  rw [h]
  simp only [if_true]
  rw [take_one (by simp; omega)]
  simp
theorem prsT_all {x : Nod} {i : Nat} (h : min x.keys.length x.vals.length ≤ i) : prsT x i = prsN x := by
  unfold prsT
  refine List.take_of_length_le ?_
  unfold prsN
  split
  · simp; omega
  · simp
theorem prsT_len (x : Nod) (i : Nat) : (prsT x i).length ≤ i := by unfold prsT; simp; omega
abbrev cVis (t : Txn) (s : List Int × List Pai) : List Cell := [slE false t.d.secs, slE false t.d.cache, i6 t.d.ops, slE false t.d.faults, b1 t.d.down, i6 t.m.gen, i6 t.m.root, i6 t.root, slE false t.new, slE true s.1, slE true s.2]

theorem dx84 {P : Program} {X : FuncId → List Arg → List (Bool × List Cell) → List (Option (List Cell)) → Prop} {a : List Arg} {Q : List (Bool × List Cell) → List (Option (List Cell)) → Prop} (h : ∃ b vals outs, a = b ∧ D P X (.call 84 b vals outs) ∧ Q vals outs) : CallS P X 84 a Q := ⟨h⟩

set_option maxRecDepth 100000 in
theorem tx84 {t : Txn} {f : Nat} {n : Int} {s : List Int × List Pai} (ht : zT t ≤ 1100000 := by first | assumption | omega | (simp; done) | (simp; omega)) (h1 : lft t s.1 ≤ f := by first | assumption | omega | (simp; done) | (simp; omega)) (h2 : s.1.length + lft t s.1 ≤ 1100000 := by first | assumption | omega | (simp; done) | (simp; omega)) (h3 : s.2.length ≤ s.1.length * (zT t + 240) := by first | assumption | omega | (simp; done) | (simp; omega)) : T 84 [.own true 0 0 (cVis t s), aI n] [] [some (cVis t (vis t f n s)), none] := by
  induction f generalizing n s
  · have hn : (ndA t n).2 = false ∨ hasI s.1 n = true := by
      cases e1 : (ndA t n).2 <;> cases e2 : hasI s.1 n <;> simp
      have := lft_pos e1 e2; omega
    rw [vis_no hn]
    obtain ⟨met, out⟩ := s
    dsimp only at h1 h2 h3 hn
    rcases hn with hn | hn
    · refine w_call md [] Tryz.func84 rfl ?_
      repeat' ((conv => whnf); (first | refine k0 ?_ | refine jA fun _ => ?_ | refine jB fun _ => ?_ | refine kC (fun _ => ?_) fun _ => ?_ | (apply cx88; refine kl tx88 ?_) | (apply cx44; refine kl tx44 ?_) | refine jst ?_ | exact ⟨rfl, rfl⟩ | exact jV | fail))
    · refine w_call md [] Tryz.func84 rfl ?_
      repeat' ((conv => whnf); (first | refine jA fun _ => ?_ | refine jB fun _ => ?_ | refine kC (fun _ => ?_) fun _ => ?_ | (apply cx88; refine kl tx88 ?_) | (apply cx44; refine kl tx44 ?_) | refine jst ?_ | exact ⟨rfl, rfl⟩ | exact jV | fail))
      · conv => whnf
        refine bstep (w_outE 0 (txnC false t) met [slE true out] 1) ?_
        repeat' ((conv => whnf); (first | ((with_reducible apply bfin); exact w_inE 0 6 (txnC false t) met [slE true out] met.length 1 rfl) | refine k0 ?_ | refine jA fun _ => ?_ | refine jB fun _ => ?_ | refine kC (fun _ => ?_) fun _ => ?_ | (apply cx88; refine kl tx88 ?_) | (apply cx44; refine kl tx44 ?_) | refine jst ?_ | exact ⟨rfl, rfl⟩ | exact jV | fail))
      · repeat' ((conv => whnf); (first | refine k0 ?_ | refine jA fun _ => ?_ | refine jB fun _ => ?_ | refine kC (fun _ => ?_) fun _ => ?_ | (apply cx88; refine kl tx88 ?_) | (apply cx44; refine kl tx44 ?_) | refine jst ?_ | exact ⟨rfl, rfl⟩ | exact jV | fail))
  · rename_i f ih
    obtain ⟨met, out⟩ := s
    dsimp only at h1 h2 h3
    by_cases hn : (ndA t n).2 = false ∨ hasI met n = true
    · rw [vis_no hn]
      rcases hn with hn | hn
      · refine w_call md [] Tryz.func84 rfl ?_
        repeat' ((conv => whnf); (first | refine k0 ?_ | refine jA fun _ => ?_ | refine jB fun _ => ?_ | refine kC (fun _ => ?_) fun _ => ?_ | (apply cx88; refine kl tx88 ?_) | (apply cx44; refine kl tx44 ?_) | refine jst ?_ | exact ⟨rfl, rfl⟩ | exact jV | fail))
      · refine w_call md [] Tryz.func84 rfl ?_
        repeat' ((conv => whnf); (first | refine jA fun _ => ?_ | refine jB fun _ => ?_ | refine kC (fun _ => ?_) fun _ => ?_ | (apply cx88; refine kl tx88 ?_) | (apply cx44; refine kl tx44 ?_) | refine jst ?_ | exact ⟨rfl, rfl⟩ | exact jV | fail))
        · conv => whnf
          refine bstep (w_outE 0 (txnC false t) met [slE true out] 1) ?_
          repeat' ((conv => whnf); (first | ((with_reducible apply bfin); exact w_inE 0 6 (txnC false t) met [slE true out] met.length 1 rfl) | refine k0 ?_ | refine jA fun _ => ?_ | refine jB fun _ => ?_ | refine kC (fun _ => ?_) fun _ => ?_ | (apply cx88; refine kl tx88 ?_) | (apply cx44; refine kl tx44 ?_) | refine jst ?_ | exact ⟨rfl, rfl⟩ | exact jV | fail))
        · repeat' ((conv => whnf); (first | refine k0 ?_ | refine jA fun _ => ?_ | refine jB fun _ => ?_ | refine kC (fun _ => ?_) fun _ => ?_ | (apply cx88; refine kl tx88 ?_) | (apply cx44; refine kl tx44 ?_) | refine jst ?_ | exact ⟨rfl, rfl⟩ | exact jV | fail))
    · have e1 : (ndA t n).2 = true := by cases e : (ndA t n).2 <;> simp_all
      have e2 : hasI met n = false := by cases e : hasI met n <;> simp_all
      rw [vis_go e1 e2]
      refine w_call md [] Tryz.func84 rfl ?_
      repeat' ((conv => whnf); (first | refine jA fun _ => ?_ | refine jB fun _ => ?_ | refine kC (fun _ => ?_) fun _ => ?_ | (apply cx88; refine kl tx88 ?_) | (apply cx44; refine kl tx44 ?_) | refine jst ?_ | exact ⟨rfl, rfl⟩ | exact jV | fail))
      conv => whnf
      refine bstep (w_outE 0 (txnC false t) met [slE true out] 1) ?_
      refine bstep (w_outE 0 (txnC false t ++ [.ref 6 0 met.length 1]) out [] 2) ?_
      have hb : out.length ≤ 1210400000000 := Nat.le_trans h3 (Nat.le_trans (Nat.mul_le_mul (show met.length ≤ 1100000 by omega) (show zT t + 240 ≤ 1100240 by omega)) (by decide))
      have hx := cN_le (ndA t n).1
      have hxl := ndA_len t n
      repeat' ((conv => whnf); (first | refine jap (apI ?_) | refine k0 ?_ | refine jA fun _ => ?_ | refine jB fun _ => ?_ | refine kC (fun _ => ?_) fun _ => ?_ | (apply cx88; refine kl tx88 ?_) | (apply cx44; refine kl tx44 ?_) | refine jst ?_ | exact ⟨rfl, rfl⟩ | exact jV | fail))
      conv => whnf
      refine loopk (ι := Nat × List Pai) (fun i => i.1 ≤ min (ndA t n).1.keys.length (ndA t n).1.vals.length ∧ i.2 = out ++ prsT (ndA t n).1 i.1) (fun i => min (ndA t n).1.keys.length (ndA t n).1.vals.length - i.1) ((0, out)) [0, 44] (fun i => [(4, .v false [.ptr 2 0]), (45, .v false [i6 i.1])]) [some fun i => some (true, txnC false t ++ [.ref 6 0 (met ++ [n]).length 1, .ref 7 0 i.2.length 2]), none, some fun _ => some (true, [b1 (ndA t n).1.leaf, .ref 3 0 (ndA t n).1.keys.length 1, .ref 4 0 (ndA t n).1.vals.length 1, .ref 5 0 (ndA t n).1.kids.length 1]), some fun _ => nE (ndA t n).1.keys, some fun _ => nE (ndA t n).1.vals, some fun _ => nE (ndA t n).1.kids, some fun _ => nE (met ++ [n]), some fun i => nE i.2] ?_
      refine ⟨⟨by omega, by simp [prsT]⟩, ?_, fun ⟨i, o⟩ hi => ?_⟩
      · exact jw [0, 2]
      · dsimp only at hi ⊢
        obtain ⟨hi, ho⟩ := hi
        have hol : o.length ≤ 1211600000000 := by
          have := prsT_len (ndA t n).1 i
          rw [ho, List.length_append]; omega
        refine ⟨fun hlt => ?_, fun hge => ?_⟩
        · have hi2 : i < min (ndA t n).1.keys.length (ndA t n).1.vals.length := by split at hlt <;> omega
          cases hl : (ndA t n).1.leaf
          · repeat' ((conv => whnf); (first | refine k0 ?_ | refine jA fun _ => ?_ | refine jB fun _ => ?_ | refine kC (fun _ => ?_) fun _ => ?_ | (apply cx88; refine kl tx88 ?_) | (apply cx44; refine kl tx44 ?_) | refine jst ?_ | exact ⟨rfl, rfl⟩ | exact jV | fail))
            refine ⟨⟨(i + 1, o), by dsimp only; omega, by dsimp only; rw [ho, prsT_no hl, prsT_no hl]⟩, by simp only; omega, ?_⟩
            exact jw [0, 2]
          · repeat' ((conv => whnf); (first | refine jap (h2 := bgQ (by first | omega | (simp only; omega) | (simp; omega))) (h3 := bgP (by first | omega | (simp only; omega) | (simp; omega))) (apP ?_) | refine k0 ?_ | refine jA fun _ => ?_ | refine jB fun _ => ?_ | refine kC (fun _ => ?_) fun _ => ?_ | (apply cx88; refine kl tx88 ?_) | (apply cx44; refine kl tx44 ?_) | refine jst ?_ | exact ⟨rfl, rfl⟩ | exact jV | fail))
            refine ⟨⟨(i + 1, o ++ [⟨(ndA t n).1.keys[i], (ndA t n).1.vals[i]⟩]), by dsimp only; omega, by dsimp only; rw [ho, prsT_suc hl (by omega) (by omega), List.append_assoc]⟩, by simp only; omega, ?_⟩
            exact jw [0, 2]
        · have hi2 : i = min (ndA t n).1.keys.length (ndA t n).1.vals.length := by split at hge <;> omega
          have ho2 : o = out ++ prsN (ndA t n).1 := by rw [ho, prsT_all (by omega)]
          have hV0 := vis_in (s := (met, out)) e1 e2
          have hL := lft_lt e1 e2
          repeat' ((conv => whnf); (first | refine k0 ?_ | refine jA fun _ => ?_ | refine jB fun _ => ?_ | refine kC (fun _ => ?_) fun _ => ?_ | (apply cx88; refine kl tx88 ?_) | (apply cx44; refine kl tx44 ?_) | refine jst ?_ | exact ⟨rfl, rfl⟩ | exact jV | fail))
          conv => whnf
          refine loopk (ι := Nat × (List Int × List Pai)) (fun i => i.1 ≤ (ndA t n).1.kids.length ∧ i.2 = ((ndA t n).1.kids.take i.1).foldl (fun s k => vis t f k s) (met ++ [n], out ++ prsN (ndA t n).1)) (fun i => (ndA t n).1.kids.length - i.1) ((0, (met ++ [n], o))) [0, 73] (fun i => [(72, .v false [.ref 2 0 (ndA t n).1.kids.length 1]), (74, .v false [i6 i.1])]) [some fun i => some (true, cVis t i.2), none, some fun _ => nE (ndA t n).1.kids] ?_
          refine ⟨⟨by omega, by rw [ho2]; rfl⟩, ?_, fun ⟨i, s⟩ hi => ?_⟩
          · refine (w_inE 0 6 (txnC false t) (met ++ [n]) [.ref 7 0 o.length 2] (met ++ [n]).length 1 rfl).trans ?_
            refine (w_inE 0 7 (txnC false t ++ [slE true (met ++ [n])]) o [] o.length 2 rfl).trans ?_
            exact jw []
          · dsimp only at hi ⊢
            obtain ⟨hi, hs⟩ := hi
            have hV := hV0.trans (VisB.fold (fun s k => vis_b t f k s) ((ndA t n).1.kids.take i) _)
            rw [← hs] at hV
            obtain ⟨v1, v2, v3⟩ := hV
            have v4 := VisB.fold (fun s k => vis_b t f k s) ((ndA t n).1.kids.take i) (met ++ [n], out ++ prsN (ndA t n).1)
            rw [← hs] at v4
            dsimp only at v1 v2 v3
            refine ⟨fun hlt => ?_, fun hge => ?_⟩
            · have hi3 : i < (ndA t n).1.kids.length := by omega
              repeat' ((conv => whnf); (first | (apply dx84; refine kl (ih (s := s) (n := (ndA t n).1.kids[i]) (Nat.le_trans v4.a (by dsimp only; omega)) (by omega) (v3 h3)) ?_) | refine k0 ?_ | refine jA fun _ => ?_ | refine jB fun _ => ?_ | refine kC (fun _ => ?_) fun _ => ?_ | (apply cx88; refine kl tx88 ?_) | (apply cx44; refine kl tx44 ?_) | refine jst ?_ | exact ⟨rfl, rfl⟩ | exact jV | fail))
              refine ⟨⟨(i + 1, vis t f (ndA t n).1.kids[i] s), by dsimp only; omega, by dsimp only; rw [take_one hi3, List.foldl_append, ← hs]; rfl⟩, by simp only; omega, ?_⟩
              exact jw []
            · rw [List.take_of_length_le (by dsimp only at hge; omega)] at hs
              rw [← hs]
              repeat' ((conv => whnf); (first | refine k0 ?_ | refine jA fun _ => ?_ | refine jB fun _ => ?_ | refine kC (fun _ => ?_) fun _ => ?_ | (apply cx88; refine kl tx88 ?_) | (apply cx44; refine kl tx44 ?_) | refine jst ?_ | exact ⟨rfl, rfl⟩ | exact jV | fail))

theorem cx84 {P : Program} {X : FuncId → List Arg → List (Bool × List Cell) → List (Option (List Cell)) → Prop} {a : List Arg} {Q : List (Bool × List Cell) → List (Option (List Cell)) → Prop} (h : ∃ b vals outs, a = b ∧ D P X (.call 84 b vals outs) ∧ Q vals outs) : CallS P X 84 a Q := ⟨h⟩

theorem dx79 {P : Program} {X : FuncId → List Arg → List (Bool × List Cell) → List (Option (List Cell)) → Prop} {a : List Arg} {Q : List (Bool × List Cell) → List (Option (List Cell)) → Prop} (h : ∃ b vals outs, a = b ∧ D P X (.call 79 b vals outs) ∧ Q vals outs) : CallS P X 79 a Q := ⟨h⟩

set_option maxHeartbeats 2000000 in
set_option maxRecDepth 100000 in
theorem tx79 {t : Txn} {f : Nat} {n : Int} {s : List Int × List Pai} (ht : zT t ≤ 1100000 := by first | assumption | omega | (simp; done) | (simp; omega)) (h1 : lft t s.1 ≤ f := by first | assumption | omega | (simp; done) | (simp; omega)) (h2 : s.1.length + lft t s.1 ≤ 1100000 := by first | assumption | omega | (simp; done) | (simp; omega)) (h3 : s.2.length ≤ s.1.length * (zT t + 240) := by first | assumption | omega | (simp; done) | (simp; omega)) : T 79 [.val true (txnC false t), aI n, .own true 0 0 [slE true s.2], .own true 0 0 [slE true s.1]] [] [none, none, some [slE true (vis t f n s).2], some [slE true (vis t f n s).1]] := by
  induction f generalizing n s
  · have hn : (ndA t n).2 = false ∨ hasI s.1 n = true := by
      cases e1 : (ndA t n).2 <;> cases e2 : hasI s.1 n <;> simp
      have := lft_pos e1 e2; omega
    rw [vis_no hn]
    obtain ⟨met, out⟩ := s
    dsimp only at h1 h2 h3 hn
    rcases hn with hn | hn
    · refine w_call md [] Tryz.func79 rfl ?_
      repeat' ((conv => whnf); (first | refine k0 ?_ | refine jA fun _ => ?_ | refine jB fun _ => ?_ | refine kC (fun _ => ?_) fun _ => ?_ | (apply cx95; refine kl tx95 ?_) | (apply cx41; refine kl tx41 ?_) | refine jst ?_ | exact ⟨rfl, rfl⟩ | exact jV | fail))
    · refine w_call md [] Tryz.func79 rfl ?_
      repeat' ((conv => whnf); (first | refine jA fun _ => ?_ | refine jB fun _ => ?_ | refine kC (fun _ => ?_) fun _ => ?_ | (apply cx95; refine kl tx95 ?_) | (apply cx41; refine kl tx41 ?_) | refine jst ?_ | exact ⟨rfl, rfl⟩ | exact jV | fail))
      conv => whnf
      refine bstep (w_outE 3 [] met [] 1) ?_
      repeat' ((conv => whnf); (first | ((with_reducible apply bfin); exact w_inE 3 5 [] met [] met.length 1 rfl) | refine k0 ?_ | refine jA fun _ => ?_ | refine jB fun _ => ?_ | refine kC (fun _ => ?_) fun _ => ?_ | (apply cx95; refine kl tx95 ?_) | (apply cx41; refine kl tx41 ?_) | refine jst ?_ | exact ⟨rfl, rfl⟩ | exact jV | fail))
  · rename_i f ih
    obtain ⟨met, out⟩ := s
    dsimp only at h1 h2 h3
    by_cases hn : (ndA t n).2 = false ∨ hasI met n = true
    · rw [vis_no hn]
      rcases hn with hn | hn
      · refine w_call md [] Tryz.func79 rfl ?_
        repeat' ((conv => whnf); (first | refine k0 ?_ | refine jA fun _ => ?_ | refine jB fun _ => ?_ | refine kC (fun _ => ?_) fun _ => ?_ | (apply cx95; refine kl tx95 ?_) | (apply cx41; refine kl tx41 ?_) | refine jst ?_ | exact ⟨rfl, rfl⟩ | exact jV | fail))
      · refine w_call md [] Tryz.func79 rfl ?_
        repeat' ((conv => whnf); (first | refine jA fun _ => ?_ | refine jB fun _ => ?_ | refine kC (fun _ => ?_) fun _ => ?_ | (apply cx95; refine kl tx95 ?_) | (apply cx41; refine kl tx41 ?_) | refine jst ?_ | exact ⟨rfl, rfl⟩ | exact jV | fail))
        conv => whnf
        refine bstep (w_outE 3 [] met [] 1) ?_
        repeat' ((conv => whnf); (first | ((with_reducible apply bfin); exact w_inE 3 5 [] met [] met.length 1 rfl) | refine k0 ?_ | refine jA fun _ => ?_ | refine jB fun _ => ?_ | refine kC (fun _ => ?_) fun _ => ?_ | (apply cx95; refine kl tx95 ?_) | (apply cx41; refine kl tx41 ?_) | refine jst ?_ | exact ⟨rfl, rfl⟩ | exact jV | fail))
    · have e1 : (ndA t n).2 = true := by cases e : (ndA t n).2 <;> simp_all
      have e2 : hasI met n = false := by cases e : hasI met n <;> simp_all
      rw [vis_go e1 e2]
      have hb : out.length ≤ 1210400000000 := Nat.le_trans h3 (Nat.le_trans (Nat.mul_le_mul (show met.length ≤ 1100000 by omega) (show zT t + 240 ≤ 1100240 by omega)) (by decide))
      have hx := cN_le (ndA t n).1
      have hxl := ndA_len t n
      have hV0 := vis_in (s := (met, out)) e1 e2
      have hL := lft_lt e1 e2
      refine w_call md [] Tryz.func79 rfl ?_
      repeat' ((conv => whnf); (first | refine jA fun _ => ?_ | refine jB fun _ => ?_ | refine kC (fun _ => ?_) fun _ => ?_ | (apply cx95; refine kl tx95 ?_) | (apply cx41; refine kl tx41 ?_) | refine jst ?_ | exact ⟨rfl, rfl⟩ | exact jV | fail))
      conv => whnf
      refine bstep (w_outE 3 [] met [] 1) ?_
      refine bstep (w_outE 2 [] out [] 2) ?_
      repeat' ((conv => whnf); (first | refine jap (apI ?_) | refine k0 ?_ | refine jA fun _ => ?_ | refine jB fun _ => ?_ | refine kC (fun _ => ?_) fun _ => ?_ | (apply cx95; refine kl tx95 ?_) | (apply cx41; refine kl tx41 ?_) | refine jst ?_ | exact ⟨rfl, rfl⟩ | exact jV | fail))
      conv => whnf
      refine loopk (ι := Nat × List Pai) (fun i => i.1 ≤ min (ndA t n).1.keys.length (ndA t n).1.vals.length ∧ i.2 = out ++ prsT (ndA t n).1 i.1) (fun i => min (ndA t n).1.keys.length (ndA t n).1.vals.length - i.1) ((0, out)) [2, 3, 4] (fun i => [(8, .v false [.ptr 5 0]), (10, .v false [i6 i.1])]) [none, none, some fun i => some (true, [.ref 10 0 i.2.length 2]), some fun _ => some (true, [.ref 9 0 (met ++ [n]).length 1]), none, some fun _ => some (true, [b1 (ndA t n).1.leaf, .ref 6 0 (ndA t n).1.keys.length 1, .ref 7 0 (ndA t n).1.vals.length 1, .ref 8 0 (ndA t n).1.kids.length 1]), some fun _ => nE (ndA t n).1.keys, some fun _ => nE (ndA t n).1.vals, some fun _ => nE (ndA t n).1.kids, some fun _ => nE (met ++ [n]), some fun i => nE i.2] ?_
      refine ⟨⟨by omega, by simp [prsT]⟩, ?_, fun ⟨i, o⟩ hi => ?_⟩
      · exact jw [2, 3, 5]
      · dsimp only at hi ⊢
        obtain ⟨hi, ho⟩ := hi
        have hol : o.length ≤ 1211600000000 := by
          have := prsT_len (ndA t n).1 i
          rw [ho, List.length_append]; omega
        cases hl : (ndA t n).1.leaf
        all_goals repeat' ((conv => whnf); (first | refine jap (h2 := bgQ (by first | omega | (simp only; omega) | (simp; omega))) (h3 := bgP (by first | omega | (simp only; omega) | (simp; omega))) (apP ?_) | refine k0 ?_ | refine jA fun _ => ?_ | refine jB fun _ => ?_ | refine kC (fun _ => ?_) fun _ => ?_ | (apply cx95; refine kl tx95 ?_) | (apply cx41; refine kl tx41 ?_) | refine jst ?_ | exact ⟨rfl, rfl⟩ | exact jV | fail))
        all_goals first
          | (refine ⟨⟨(i + 1, o ++ [⟨(ndA t n).1.keys[i], (ndA t n).1.vals[i]⟩]), by dsimp only; omega, by dsimp only; rw [ho, prsT_suc hl (by omega) (by omega), List.append_assoc]⟩, by simp only; omega, ?_⟩
             exact jw [2, 3, 5])
          | skip
        all_goals
          have ho2 : o = out ++ prsN (ndA t n).1 := by first | (rw [ho, prsT_all (by omega)]; done) | (rw [ho, prsT_no hl, ← prsT_all (Nat.le_refl _), prsT_no hl])
          conv => whnf
          refine loopk (ι := Nat × (List Int × List Pai)) (fun i => i.1 ≤ (ndA t n).1.kids.length ∧ i.2 = ((ndA t n).1.kids.take i.1).foldl (fun s k => vis t f k s) (met ++ [n], out ++ prsN (ndA t n).1)) (fun i => (ndA t n).1.kids.length - i.1) ((0, (met ++ [n], o))) [2, 3, 4] (fun i => [(8, .v false [.ptr 5 0]), (11, .v false [i6 i.1])]) [none, none, some fun i => some (true, [slE true i.2.2]), some fun i => some (true, [slE true i.2.1]), none, some fun _ => some (true, [b1 (ndA t n).1.leaf, .ref 6 0 (ndA t n).1.keys.length 1, .ref 7 0 (ndA t n).1.vals.length 1, .ref 8 0 (ndA t n).1.kids.length 1]), some fun _ => nE (ndA t n).1.keys, some fun _ => nE (ndA t n).1.vals, some fun _ => nE (ndA t n).1.kids] ?_
          refine ⟨⟨by omega, by rw [ho2]; rfl⟩, ?_, fun ⟨i, s⟩ hi => ?_⟩
          · refine (w_inE 3 9 [] (met ++ [n]) [] (met ++ [n]).length 1 rfl).trans ?_
            refine (w_inE 2 10 [] o [] o.length 2 rfl).trans ?_
            rw [hl]
            exact jw [5]
          · dsimp only at hi ⊢
            obtain ⟨hi, hs⟩ := hi
            have v4 := VisB.fold (fun s k => vis_b t f k s) ((ndA t n).1.kids.take i) (met ++ [n], out ++ prsN (ndA t n).1)
            have hV := hV0.trans v4
            rw [← hs] at hV v4
            obtain ⟨v1, v2, v3⟩ := hV
            dsimp only at v1 v2 v3
            repeat' ((conv => whnf); (first | refine k0 ?_ | (apply cx95; refine kl tx95 ?_) | (apply cx41; refine kl tx41 ?_) | refine jst ?_ | exact ⟨rfl, rfl⟩ | exact jV | fail))
            conv => whnf
            refine ⟨fun hlt => ?_, fun hge => ?_⟩
            · have hi3 : i < (ndA t n).1.kids.length := by omega
              repeat' ((conv => whnf); (first | (apply dx79; refine kl (ih (s := s) (n := (ndA t n).1.kids[i]) (Nat.le_trans v4.a (by dsimp only; omega)) (by omega) (v3 h3)) ?_) | refine k0 ?_ | refine jA fun _ => ?_ | refine jB fun _ => ?_ | refine kC (fun _ => ?_) fun _ => ?_ | (apply cx95; refine kl tx95 ?_) | (apply cx41; refine kl tx41 ?_) | refine jst ?_ | exact ⟨rfl, rfl⟩ | exact jV | fail))
              refine ⟨⟨(i + 1, vis t f (ndA t n).1.kids[i] s), by dsimp only; omega, by dsimp only; rw [take_one hi3, List.foldl_append, ← hs]; rfl⟩, by simp only; omega, ?_⟩
              exact jw [5]
            · rw [List.take_of_length_le (by dsimp only at hge; omega)] at hs
              rw [← hs]
              repeat' ((conv => whnf); (first | refine k0 ?_ | refine jA fun _ => ?_ | refine jB fun _ => ?_ | refine kC (fun _ => ?_) fun _ => ?_ | (apply cx95; refine kl tx95 ?_) | (apply cx41; refine kl tx41 ?_) | refine jst ?_ | exact ⟨rfl, rfl⟩ | exact jV | fail))

theorem cx79 {P : Program} {X : FuncId → List Arg → List (Bool × List Cell) → List (Option (List Cell)) → Prop} {a : List Arg} {Q : List (Bool × List Cell) → List (Option (List Cell)) → Prop} (h : ∃ b vals outs, a = b ∧ D P X (.call 79 b vals outs) ∧ Q vals outs) : CallS P X 79 a Q := ⟨h⟩

end Go.Proofs.YtkggnekdjdnhiaaGreat
