/- Functions of the program, each with what it gives back. -/
import Derived.Test.YtopnaijeicknoaaGreatDoorKe
import Derived.Test.YtopnaijeicknoaaGreatDoorChecked
import Derived.IntWalk
import Derived.Test.YtopnaijeicknoaaGreatDoorMx
import Derived.Test.YtopnaijeicknoaaGreatDoorMu
import Derived.Test.YtopnaijeicknoaaGreatDoorMv
namespace Go.Proofs.YtopnaijeicknoaaGreatDoor
open Go Go.RowKit Go.IntWalk
open Enc (sz cs)
attribute [local irreducible] IntKind.wrap

/-! ### Tables that are right -/
attribute [local irreducible] pkR ppN bOf fbN cdN rpN clN2 tkN lkK
abbrev RwB (rows : List (List Vl)) : Prop := rows.length ≤ 2000000 ∧ ∀ j (hj : j < rows.length), rows[j].length ≤ 2000000 ∧ ∀ i (h : i < rows[j].length), rows[j][i].s.size ≤ 2000000
structure RwI (d : Df) (k : Nat) (rows : List (List Vl)) (j : Nat) (hj : j < rows.length) : Prop where
  ro : roOk (rpN d) rows[j] = true
  lk : lkN d k rows[j] = false
  ls : 0 < j → lkK (ppN d) (pkR (ppN d) rows[j - 1]) (pkR (ppN d) rows[j]) = true
structure TbI (d : Df) (k : Nat) (rows : List (List Vl)) (j : Nat) (hj : j < rows.length) : Prop where
  rw_ : RwI d k rows j hj
  cl : ∀ i (hi : i < rows.length), i < j → clN2 d rows[i] rows[j] = false
noncomputable def tbI (d : Df) (k : Nat) (rows : List (List Vl)) : Bool := bOf (∀ j (hj : j < rows.length), TbI d k rows j hj)
noncomputable def tbS (d : Df) (k : Nat) (rows : List (List Vl)) : Bool := bOf ((∀ j (hj : j < rows.length), RwI d k rows j hj) ∧ ∀ j (hj : j < rows.length), tkN d rows rows[j] = false)
theorem cd_fb {s : List Df} {k : Nat} (h : fbN s = -1) (hk : k < s.length) : cdN s[k] = 0 := by
  have := fstI_neg (by unfold fbN at h; exact h) k hk
  exact Classical.byContradiction fun q => this (.inr ⟨hk, .inl q⟩)

set_option maxHeartbeats 2000000 in
set_option maxRecDepth 100000 in
theorem tx36 {s : List Df} {k : Nat} {rows : List (List Vl)} (hf : fbN s = -1 := by first | assumption | omega | (simp; done) | (simp; omega)) (hk : k < s.length := by first | assumption | omega | (simp; done) | (simp; omega)) (hs : zSc s ≤ 2000000 := by first | assumption | omega | (simp; done) | (simp; omega)) (hm : RwB rows := by first | assumption | omega | (simp; done) | (simp; omega)) : T 36 [aE s, aI (k : Nat), aE rows] [vB (tbI s[k] k rows)] [none, none, none] := by
  refine w_call md [] Tryz.func36 rfl ?_
  have hs2 := zSc_b hs
  have hz := hs2.2 k hk
  have hcd := cd_fb hf hk
  obtain ⟨z3, z4⟩ := hm
  have hrl := rpN_len (d := s[k])
  have hpl := ppN_len (d := s[k])
  repeat' ((conv => whnf); (first | refine And.intro ⟨by omega, by omega⟩ (Exists.intro _ (And.intro (rdI (i := k) (by omega) (by omega)) ?_)) | (apply cx75; refine kl (tx75 (d := s[k])) ?_) | (apply cx76; refine kl (tx76 (d := s[k])) ?_) | refine k0 ?_ | refine jA fun _ => ?_ | refine jB fun _ => ?_ | refine kC (fun _ => ?_) fun _ => ?_ | (apply cx75; refine kl tx75 ?_) | (apply cx76; refine kl tx76 ?_) | (apply cx77; refine kl tx77 ?_) | (apply cx78; refine kl tx78 ?_) | (apply cx80; refine kl tx80 ?_) | (apply cx79; refine kl tx79 ?_) | (apply cx81; refine kl tx81 ?_) | refine jst ?_ | exact ⟨rfl, rfl⟩ | exact jV | fail))
  conv => whnf
  refine loopk (ι := Nat) (fun i => i ≤ rows.length ∧ ∀ j (h : j < rows.length), j < i → TbI s[k] k rows j h) (fun i => rows.length - i) (0) [0, 1, 2, 23, 24] (fun i => [(7, rE 3 (rpN s[k])), (8, rE 4 (ppN s[k])), (25, .v false [i6 i])]) [none, none, none, some fun _ => nE (rpN s[k]), some fun _ => nE (ppN s[k])] ?_
  refine ⟨⟨by omega, by intros; omega⟩, ?_, fun u hi => ?_⟩
  · exact jw []
  · repeat' ((conv => whnf); (first | refine k0 ?_ | (apply cx75; refine kl tx75 ?_) | (apply cx76; refine kl tx76 ?_) | (apply cx77; refine kl tx77 ?_) | (apply cx78; refine kl tx78 ?_) | (apply cx80; refine kl tx80 ?_) | (apply cx79; refine kl tx79 ?_) | (apply cx81; refine kl tx81 ?_) | refine jst ?_ | exact ⟨rfl, rfl⟩ | exact jV | fail))
    conv => whnf
    refine ⟨fun hlt => ?_, fun hge => ?_⟩
    · have hi2 : u < rows.length := by omega
      have hzr := z4 u hi2
      have hzr1 := hzr.1
      have hR : T 77 [aE (rpN s[k]), aE rows[u]] [vB (roOk (rpN s[k]) rows[u])] [none, none] := tx77
      have hL : T 78 [aE s, aI (k : Nat), aE rows[u]] [vB (lkN s[k] k rows[u])] [none, none, none] := tx78 hf hk
      have hno : ∀ {P : Prop}, (∀ j (hj : j < rows.length), TbI s[k] k rows j hj) → (TbI s[k] k rows u hi2 → P) → P := fun q f => f (q u hi2)
      cases h1 : roOk (rpN s[k]) rows[u]
      · rw [h1] at hR
        repeat' ((conv => whnf); (first | (apply cx77; refine kl (hR) ?_) | refine k0 ?_ | refine jA fun _ => ?_ | refine jB fun _ => ?_ | refine kC (fun _ => ?_) fun _ => ?_ | (apply cx75; refine kl tx75 ?_) | (apply cx76; refine kl tx76 ?_) | (apply cx77; refine kl tx77 ?_) | (apply cx78; refine kl tx78 ?_) | (apply cx80; refine kl tx80 ?_) | (apply cx79; refine kl tx79 ?_) | (apply cx81; refine kl tx81 ?_) | refine jst ?_ | exact ⟨rfl, rfl⟩ | exact jV | fail))
        exact ⟨vB0 (bOf_n fun q => bft h1 (q u hi2).rw_.ro), rfl⟩
      rw [h1] at hR
      cases h2 : lkN s[k] k rows[u]
      rotate_left
      · rw [h2] at hL
        repeat' ((conv => whnf); (first | (apply cx77; refine kl (hR) ?_) | (apply cx78; refine kl (hL) ?_) | refine k0 ?_ | refine jA fun _ => ?_ | refine jB fun _ => ?_ | refine kC (fun _ => ?_) fun _ => ?_ | (apply cx75; refine kl tx75 ?_) | (apply cx76; refine kl tx76 ?_) | (apply cx77; refine kl tx77 ?_) | (apply cx78; refine kl tx78 ?_) | (apply cx80; refine kl tx80 ?_) | (apply cx79; refine kl tx79 ?_) | (apply cx81; refine kl tx81 ?_) | refine jst ?_ | exact ⟨rfl, rfl⟩ | exact jV | fail))
        exact ⟨vB0 (bOf_n fun q => bft (q u hi2).rw_.lk h2), rfl⟩
      rw [h2] at hL
      have key : (0 < u → lkK (ppN s[k]) (pkR (ppN s[k]) rows[u - 1]) (pkR (ppN s[k]) rows[u]) = true) ∨ 0 < u ∧ lkK (ppN s[k]) (pkR (ppN s[k]) rows[u - 1]) (pkR (ppN s[k]) rows[u]) = false := by
        by_cases h0 : 0 < u
        · cases hl : lkK (ppN s[k]) (pkR (ppN s[k]) rows[u - 1]) (pkR (ppN s[k]) rows[u])
          · exact .inr ⟨h0, rfl⟩
          · exact .inl fun _ => rfl
        · exact .inl fun q => absurd q h0
      rcases key with key | ⟨h0, h3⟩
      rotate_left
      · obtain ⟨u, rfl⟩ : ∃ a, u = a + 1 := ⟨u - 1, by omega⟩
        simp only [Nat.add_sub_cancel] at h3
        have hi3 : u < rows.length := by omega
        have hzr2 := (z4 u hi3).1
        have lp1 := pkR_len (l := ppN s[k]) (r := rows[u])
        have lp2 := pkR_len (l := ppN s[k]) (r := rows[u + 1])
        have hK : T 79 [aE (ppN s[k]), aE (pkR (ppN s[k]) rows[u]), aE (pkR (ppN s[k]) rows[u + 1])] [vB (lkK (ppN s[k]) (pkR (ppN s[k]) rows[u]) (pkR (ppN s[k]) rows[u + 1]))] [none, none, none] := tx79
        rw [h3] at hK
        repeat' ((conv => whnf); (first | (apply cx77; refine kl (hR) ?_) | (apply cx78; refine kl (hL) ?_) | (apply cx79; refine kl (hK) ?_) | (apply cx80; refine kl (tx80 (l := ppN s[k]) (r := rows[u])) ?_) | (apply cx80; refine kl (tx80 (l := ppN s[k]) (r := rows[u + 1])) ?_) | refine Exists.intro ((u : Nat) : Int) (And.intro ((i64_in _ (by omega)).trans (by omega)) ?_) | refine And.intro ⟨by omega, by omega⟩ (Exists.intro _ (And.intro (rdI (i := u) (by omega) (by omega)) ?_)) | refine k0 ?_ | refine jA fun _ => ?_ | refine jB fun _ => ?_ | refine kC (fun _ => ?_) fun _ => ?_ | (apply cx75; refine kl tx75 ?_) | (apply cx76; refine kl tx76 ?_) | (apply cx77; refine kl tx77 ?_) | (apply cx78; refine kl tx78 ?_) | (apply cx80; refine kl tx80 ?_) | (apply cx79; refine kl tx79 ?_) | (apply cx81; refine kl tx81 ?_) | refine jst ?_ | exact ⟨rfl, rfl⟩ | exact jV | fail))
        exact ⟨vB0 (bOf_n fun q => bft h3 ((q (u + 1) hi2).rw_.ls h0)), rfl⟩
      cases u with
      | zero =>
        have htk : (rows.take 0).length = 0 := rfl
        repeat' ((conv => whnf); (first | (apply cx77; refine kl (hR) ?_) | (apply cx78; refine kl (hL) ?_) | refine Exists.intro _ (Exists.intro _ (Exists.intro _ (And.intro rfl (And.intro bndN (And.intro (sl_to (by omega)) ?_))))) | refine k0 ?_ | refine jA fun _ => ?_ | refine jB fun _ => ?_ | refine kC (fun _ => ?_) fun _ => ?_ | (apply cx75; refine kl tx75 ?_) | (apply cx76; refine kl tx76 ?_) | (apply cx77; refine kl tx77 ?_) | (apply cx78; refine kl tx78 ?_) | (apply cx80; refine kl tx80 ?_) | (apply cx79; refine kl tx79 ?_) | (apply cx81; refine kl tx81 ?_) | refine jst ?_ | exact ⟨rfl, rfl⟩ | exact jV | fail))
        conv => whnf
        refine loopk (ι := Nat) (fun i => i ≤ 0 ∧ ∀ j (h : j < rows.length), j < i → clN2 s[k] rows[j] rows[0] = false) (fun i => 0 - i) (0) [0, 1, 2, 7, 8, 10, 23, 24, 25, 61, 62] (fun i => [(63, .v false [i6 i])]) [none, none, none, none, none] ?_
        refine ⟨⟨by omega, by intros; omega⟩, ?_, fun w hw => ?_⟩
        · exact jw []
        · repeat' ((conv => whnf); (first | refine k0 ?_ | (apply cx75; refine kl tx75 ?_) | (apply cx76; refine kl tx76 ?_) | (apply cx77; refine kl tx77 ?_) | (apply cx78; refine kl tx78 ?_) | (apply cx80; refine kl tx80 ?_) | (apply cx79; refine kl tx79 ?_) | (apply cx81; refine kl tx81 ?_) | refine jst ?_ | exact ⟨rfl, rfl⟩ | exact jV | fail))
          conv => whnf
          refine ⟨fun hlt2 => ?_, fun hge2 => ?_⟩
          · exact absurd (show w < 0 by omega) (Nat.not_lt_zero _)
          · obtain rfl : w = 0 := by omega
            repeat' ((conv => whnf); (first | refine k0 ?_ | refine jA fun _ => ?_ | refine jB fun _ => ?_ | refine kC (fun _ => ?_) fun _ => ?_ | (apply cx75; refine kl tx75 ?_) | (apply cx76; refine kl tx76 ?_) | (apply cx77; refine kl tx77 ?_) | (apply cx78; refine kl tx78 ?_) | (apply cx80; refine kl tx80 ?_) | (apply cx79; refine kl tx79 ?_) | (apply cx81; refine kl tx81 ?_) | refine jst ?_ | exact ⟨rfl, rfl⟩ | exact jV | fail))
            refine ⟨⟨0 + 1, by omega, all_suc hi.2 hi2 ⟨⟨h1, h2, key⟩, fun j h hj => hw.2 j h hj⟩⟩, by simp only; omega, ?_⟩
            exact jw []
      | succ u =>
        have h3 := key (by omega)
        simp only [Nat.add_sub_cancel] at h3
        have hi3 : u < rows.length := by omega
        have hzr2 := (z4 u hi3).1
        have lp1 := pkR_len (l := ppN s[k]) (r := rows[u])
        have lp2 := pkR_len (l := ppN s[k]) (r := rows[u + 1])
        have htk : (rows.take (u + 1)).length = u + 1 := by rw [List.length_take]; omega
        have hK : T 79 [aE (ppN s[k]), aE (pkR (ppN s[k]) rows[u]), aE (pkR (ppN s[k]) rows[u + 1])] [vB (lkK (ppN s[k]) (pkR (ppN s[k]) rows[u]) (pkR (ppN s[k]) rows[u + 1]))] [none, none, none] := tx79
        rw [h3] at hK
        repeat' ((conv => whnf); (first | (apply cx77; refine kl (hR) ?_) | (apply cx78; refine kl (hL) ?_) | (apply cx79; refine kl (hK) ?_) | (apply cx80; refine kl (tx80 (l := ppN s[k]) (r := rows[u])) ?_) | (apply cx80; refine kl (tx80 (l := ppN s[k]) (r := rows[u + 1])) ?_) | refine Exists.intro ((u : Nat) : Int) (And.intro ((i64_in _ (by omega)).trans (by omega)) ?_) | refine And.intro ⟨by omega, by omega⟩ (Exists.intro _ (And.intro (rdI (i := u) (by omega) (by omega)) ?_)) | refine Exists.intro _ (Exists.intro _ (Exists.intro _ (And.intro rfl (And.intro bndN (And.intro (sl_to (by omega)) ?_))))) | refine k0 ?_ | refine jA fun _ => ?_ | refine jB fun _ => ?_ | refine kC (fun _ => ?_) fun _ => ?_ | (apply cx75; refine kl tx75 ?_) | (apply cx76; refine kl tx76 ?_) | (apply cx77; refine kl tx77 ?_) | (apply cx78; refine kl tx78 ?_) | (apply cx80; refine kl tx80 ?_) | (apply cx79; refine kl tx79 ?_) | (apply cx81; refine kl tx81 ?_) | refine jst ?_ | exact ⟨rfl, rfl⟩ | exact jV | fail))
        conv => whnf
        refine loopk (ι := Nat) (fun i => i ≤ u + 1 ∧ ∀ j (h : j < rows.length), j < i → clN2 s[k] rows[j] rows[u + 1] = false) (fun i => u + 1 - i) (0) [0, 1, 2, 7, 8, 10, 23, 24, 25, 61, 62] (fun i => [(63, .v false [i6 i])]) [none, none, none, none, none] ?_
        refine ⟨⟨by omega, by intros; omega⟩, ?_, fun w hw => ?_⟩
        · exact jw []
        · repeat' ((conv => whnf); (first | refine k0 ?_ | (apply cx75; refine kl tx75 ?_) | (apply cx76; refine kl tx76 ?_) | (apply cx77; refine kl tx77 ?_) | (apply cx78; refine kl tx78 ?_) | (apply cx80; refine kl tx80 ?_) | (apply cx79; refine kl tx79 ?_) | (apply cx81; refine kl tx81 ?_) | refine jst ?_ | exact ⟨rfl, rfl⟩ | exact jV | fail))
          conv => whnf
          refine ⟨fun hlt2 => ?_, fun hge2 => ?_⟩
          · have hw2 : w < u + 1 := by omega
            have hw3 : w < rows.length := by omega
            have hw4 : w < (rows.take (u + 1)).length := by omega
            have ew : (rows.take (u + 1))[w] = rows[w] := List.getElem_take
            have hzw := (z4 w hw3).1
            have hC : T 81 [.val true (dfC false s[k]), aE (rows.take (u + 1))[w], aE rows[u + 1]] [vB (clN2 s[k] rows[w] rows[u + 1])] [none, none, none] := by
              rw [ew]
              exact tx81 hcd
            cases h5 : clN2 s[k] rows[w] rows[u + 1]
            · rw [h5] at hC
              repeat' ((conv => whnf); (first | refine And.intro ⟨by omega, by omega⟩ (Exists.intro _ (And.intro (rdI (i := k) (by omega) (by omega)) ?_)) | (apply cx81; refine kl (hC) ?_) | refine k0 ?_ | refine jA fun _ => ?_ | refine jB fun _ => ?_ | refine kC (fun _ => ?_) fun _ => ?_ | (apply cx75; refine kl tx75 ?_) | (apply cx76; refine kl tx76 ?_) | (apply cx77; refine kl tx77 ?_) | (apply cx78; refine kl tx78 ?_) | (apply cx80; refine kl tx80 ?_) | (apply cx79; refine kl tx79 ?_) | (apply cx81; refine kl tx81 ?_) | refine jst ?_ | exact ⟨rfl, rfl⟩ | exact jV | fail))
              refine ⟨⟨w + 1, by omega, all_suc hw.2 hw3 h5⟩, by simp only; omega, ?_⟩
              exact jw []
            · rw [h5] at hC
              repeat' ((conv => whnf); (first | refine And.intro ⟨by omega, by omega⟩ (Exists.intro _ (And.intro (rdI (i := k) (by omega) (by omega)) ?_)) | (apply cx81; refine kl (hC) ?_) | refine k0 ?_ | refine jA fun _ => ?_ | refine jB fun _ => ?_ | refine kC (fun _ => ?_) fun _ => ?_ | (apply cx75; refine kl tx75 ?_) | (apply cx76; refine kl tx76 ?_) | (apply cx77; refine kl tx77 ?_) | (apply cx78; refine kl tx78 ?_) | (apply cx80; refine kl tx80 ?_) | (apply cx79; refine kl tx79 ?_) | (apply cx81; refine kl tx81 ?_) | refine jst ?_ | exact ⟨rfl, rfl⟩ | exact jV | fail))
              exact ⟨vB0 (bOf_n fun q => bft ((q (u + 1) hi2).cl w hw3 hw2) h5), rfl⟩
          · obtain rfl : w = u + 1 := by omega
            repeat' ((conv => whnf); (first | refine k0 ?_ | refine jA fun _ => ?_ | refine jB fun _ => ?_ | refine kC (fun _ => ?_) fun _ => ?_ | (apply cx75; refine kl tx75 ?_) | (apply cx76; refine kl tx76 ?_) | (apply cx77; refine kl tx77 ?_) | (apply cx78; refine kl tx78 ?_) | (apply cx80; refine kl tx80 ?_) | (apply cx79; refine kl tx79 ?_) | (apply cx81; refine kl tx81 ?_) | refine jst ?_ | exact ⟨rfl, rfl⟩ | exact jV | fail))
            refine ⟨⟨u + 1 + 1, by omega, all_suc hi.2 hi2 ⟨⟨h1, h2, key⟩, fun j h hj => hw.2 j h hj⟩⟩, by simp only; omega, ?_⟩
            exact jw []
    · obtain rfl : u = rows.length := by omega
      repeat' ((conv => whnf); (first | refine k0 ?_ | refine jA fun _ => ?_ | refine jB fun _ => ?_ | refine kC (fun _ => ?_) fun _ => ?_ | (apply cx75; refine kl tx75 ?_) | (apply cx76; refine kl tx76 ?_) | (apply cx77; refine kl tx77 ?_) | (apply cx78; refine kl tx78 ?_) | (apply cx80; refine kl tx80 ?_) | (apply cx79; refine kl tx79 ?_) | (apply cx81; refine kl tx81 ?_) | refine jst ?_ | exact ⟨rfl, rfl⟩ | exact jV | fail))
      exact ⟨vB1 (bOf_y fun j hj => hi.2 j hj hj), rfl⟩

theorem cx36 {P : Program} {X : FuncId → List Arg → List (Bool × List Cell) → List (Option (List Cell)) → Prop} {a : List Arg} {Q : List (Bool × List Cell) → List (Option (List Cell)) → Prop} (h : ∃ b vals outs, a = b ∧ D P X (.call 36 b vals outs) ∧ Q vals outs) : CallS P X 36 a Q := ⟨h⟩

set_option maxHeartbeats 2000000 in
set_option maxRecDepth 100000 in
theorem tx32 {s : List Df} {k : Nat} {rows : List (List Vl)} (hf : fbN s = -1 := by first | assumption | omega | (simp; done) | (simp; omega)) (hk : k < s.length := by first | assumption | omega | (simp; done) | (simp; omega)) (hs : zSc s ≤ 2000000 := by first | assumption | omega | (simp; done) | (simp; omega)) (hm : RwB rows := by first | assumption | omega | (simp; done) | (simp; omega)) : T 32 [aE s, aI (k : Nat), aE rows] [vB (tbS s[k] k rows)] [none, none, none] := by
  refine w_call md [] Tryz.func32 rfl ?_
  have hs2 := zSc_b hs
  have hz := hs2.2 k hk
  have hcd := cd_fb hf hk
  obtain ⟨z3, z4⟩ := hm
  have z5 : rows.length ≤ 2000000 ∧ ∀ j (hj : j < rows.length), rows[j].length ≤ 2000000 := ⟨z3, fun j hj => (z4 j hj).1⟩
  have hrl := rpN_len (d := s[k])
  have hpl := ppN_len (d := s[k])
  repeat' ((conv => whnf); (first | refine And.intro ⟨by omega, by omega⟩ (Exists.intro _ (And.intro (rdI (i := k) (by omega) (by omega)) ?_)) | (apply cx64; refine kl (tx64 (d := s[k])) ?_) | refine k0 ?_ | refine jA fun _ => ?_ | refine jB fun _ => ?_ | refine kC (fun _ => ?_) fun _ => ?_ | (apply cx64; refine kl tx64 ?_) | (apply cx66; refine kl tx66 ?_) | (apply cx65; refine kl tx65 ?_) | (apply cx67; refine kl tx67 ?_) | (apply cx69; refine kl tx69 ?_) | (apply cx68; refine kl tx68 ?_) | (apply cx45; refine kl tx45 ?_) | refine jst ?_ | exact ⟨rfl, rfl⟩ | exact jV | fail))
  conv => whnf
  refine loopk (ι := Nat) (fun i => i ≤ rows.length ∧ ∀ j (h : j < rows.length), j < i → RwI s[k] k rows j h) (fun i => rows.length - i) (0) [0, 1, 2, 7, 8] (fun i => [(9, .v false [i6 i])]) [none, none, none, some fun _ => some (true, dfC false s[k]), some fun _ => nE (ppN s[k])] ?_
  refine ⟨⟨by omega, by intros; omega⟩, ?_, fun u hi => ?_⟩
  · exact jw []
  · repeat' ((conv => whnf); (first | refine k0 ?_ | (apply cx64; refine kl tx64 ?_) | (apply cx66; refine kl tx66 ?_) | (apply cx65; refine kl tx65 ?_) | (apply cx67; refine kl tx67 ?_) | (apply cx69; refine kl tx69 ?_) | (apply cx68; refine kl tx68 ?_) | (apply cx45; refine kl tx45 ?_) | refine jst ?_ | exact ⟨rfl, rfl⟩ | exact jV | fail))
    conv => whnf
    refine ⟨fun hlt => ?_, fun hge => ?_⟩
    · have hi2 : u < rows.length := by omega
      have hzr := z4 u hi2
      have hzr1 := hzr.1
      have hR : T 65 [aE (rpN s[k]), aE rows[u]] [vB (roOk (rpN s[k]) rows[u])] [none, none] := tx65
      have hL : T 67 [aE s, aI (k : Nat), aE rows[u]] [vB (lkN s[k] k rows[u])] [none, none, none] := tx67 hf hk
      cases h1 : roOk (rpN s[k]) rows[u]
      · rw [h1] at hR
        repeat' ((conv => whnf); (first | (apply cx65; refine kl (hR) ?_) | (apply cx66; refine kl (tx66 (d := s[k])) ?_) | refine k0 ?_ | refine jA fun _ => ?_ | refine jB fun _ => ?_ | refine kC (fun _ => ?_) fun _ => ?_ | (apply cx64; refine kl tx64 ?_) | (apply cx66; refine kl tx66 ?_) | (apply cx65; refine kl tx65 ?_) | (apply cx67; refine kl tx67 ?_) | (apply cx69; refine kl tx69 ?_) | (apply cx68; refine kl tx68 ?_) | (apply cx45; refine kl tx45 ?_) | refine jst ?_ | exact ⟨rfl, rfl⟩ | exact jV | fail))
        exact ⟨vB0 (bOf_n fun q => bft h1 (q.1 u hi2).ro), rfl⟩
      rw [h1] at hR
      cases h2 : lkN s[k] k rows[u]
      rotate_left
      · rw [h2] at hL
        repeat' ((conv => whnf); (first | (apply cx65; refine kl (hR) ?_) | (apply cx67; refine kl (hL) ?_) | (apply cx66; refine kl (tx66 (d := s[k])) ?_) | refine k0 ?_ | refine jA fun _ => ?_ | refine jB fun _ => ?_ | refine kC (fun _ => ?_) fun _ => ?_ | (apply cx64; refine kl tx64 ?_) | (apply cx66; refine kl tx66 ?_) | (apply cx65; refine kl tx65 ?_) | (apply cx67; refine kl tx67 ?_) | (apply cx69; refine kl tx69 ?_) | (apply cx68; refine kl tx68 ?_) | (apply cx45; refine kl tx45 ?_) | refine jst ?_ | exact ⟨rfl, rfl⟩ | exact jV | fail))
        exact ⟨vB0 (bOf_n fun q => bft (q.1 u hi2).lk h2), rfl⟩
      rw [h2] at hL
      cases u with
      | zero =>
        repeat' ((conv => whnf); (first | (apply cx65; refine kl (hR) ?_) | (apply cx67; refine kl (hL) ?_) | (apply cx66; refine kl (tx66 (d := s[k])) ?_) | refine k0 ?_ | refine jA fun _ => ?_ | refine jB fun _ => ?_ | refine kC (fun _ => ?_) fun _ => ?_ | (apply cx64; refine kl tx64 ?_) | (apply cx66; refine kl tx66 ?_) | (apply cx65; refine kl tx65 ?_) | (apply cx67; refine kl tx67 ?_) | (apply cx69; refine kl tx69 ?_) | (apply cx68; refine kl tx68 ?_) | (apply cx45; refine kl tx45 ?_) | refine jst ?_ | exact ⟨rfl, rfl⟩ | exact jV | fail))
        refine ⟨⟨1, by omega, all_suc hi.2 hi2 ⟨h1, h2, fun q => absurd q (Nat.not_lt_zero _)⟩⟩, by simp only; omega, ?_⟩
        exact jw []
      | succ u =>
        have hi3 : u < rows.length := by omega
        have hzr2 := (z4 u hi3).1
        have lp1 := pkR_len (l := ppN s[k]) (r := rows[u])
        have lp2 := pkR_len (l := ppN s[k]) (r := rows[u + 1])
        have hK : T 68 [aE (ppN s[k]), aE (pkR (ppN s[k]) rows[u]), aE (pkR (ppN s[k]) rows[u + 1])] [vB (lkK (ppN s[k]) (pkR (ppN s[k]) rows[u]) (pkR (ppN s[k]) rows[u + 1]))] [none, none, none] := tx68
        cases h3 : lkK (ppN s[k]) (pkR (ppN s[k]) rows[u]) (pkR (ppN s[k]) rows[u + 1])
        · rw [h3] at hK
          repeat' ((conv => whnf); (first | (apply cx65; refine kl (hR) ?_) | (apply cx67; refine kl (hL) ?_) | (apply cx66; refine kl (tx66 (d := s[k])) ?_) | (apply cx68; refine kl (hK) ?_) | (apply cx69; refine kl (tx69 (d := s[k]) (r := rows[u])) ?_) | (apply cx69; refine kl (tx69 (d := s[k]) (r := rows[u + 1])) ?_) | refine Exists.intro ((u : Nat) : Int) (And.intro ((i64_in _ (by omega)).trans (by omega)) ?_) | refine And.intro ⟨by omega, by omega⟩ (Exists.intro _ (And.intro (rdI (i := u) (by omega) (by omega)) ?_)) | refine k0 ?_ | refine jA fun _ => ?_ | refine jB fun _ => ?_ | refine kC (fun _ => ?_) fun _ => ?_ | (apply cx64; refine kl tx64 ?_) | (apply cx66; refine kl tx66 ?_) | (apply cx65; refine kl tx65 ?_) | (apply cx67; refine kl tx67 ?_) | (apply cx69; refine kl tx69 ?_) | (apply cx68; refine kl tx68 ?_) | (apply cx45; refine kl tx45 ?_) | refine jst ?_ | exact ⟨rfl, rfl⟩ | exact jV | fail))
          exact ⟨vB0 (bOf_n fun q => bft h3 ((q.1 (u + 1) hi2).ls (by omega))), rfl⟩
        · rw [h3] at hK
          repeat' ((conv => whnf); (first | (apply cx65; refine kl (hR) ?_) | (apply cx67; refine kl (hL) ?_) | (apply cx66; refine kl (tx66 (d := s[k])) ?_) | (apply cx68; refine kl (hK) ?_) | (apply cx69; refine kl (tx69 (d := s[k]) (r := rows[u])) ?_) | (apply cx69; refine kl (tx69 (d := s[k]) (r := rows[u + 1])) ?_) | refine Exists.intro ((u : Nat) : Int) (And.intro ((i64_in _ (by omega)).trans (by omega)) ?_) | refine And.intro ⟨by omega, by omega⟩ (Exists.intro _ (And.intro (rdI (i := u) (by omega) (by omega)) ?_)) | refine k0 ?_ | refine jA fun _ => ?_ | refine jB fun _ => ?_ | refine kC (fun _ => ?_) fun _ => ?_ | (apply cx64; refine kl tx64 ?_) | (apply cx66; refine kl tx66 ?_) | (apply cx65; refine kl tx65 ?_) | (apply cx67; refine kl tx67 ?_) | (apply cx69; refine kl tx69 ?_) | (apply cx68; refine kl tx68 ?_) | (apply cx45; refine kl tx45 ?_) | refine jst ?_ | exact ⟨rfl, rfl⟩ | exact jV | fail))
          refine ⟨⟨u + 1 + 1, by omega, all_suc hi.2 hi2 ⟨h1, h2, fun _ => h3⟩⟩, by simp only; omega, ?_⟩
          exact jw []
    · obtain rfl : u = rows.length := by omega
      have hrw := hi.2
      repeat' ((conv => whnf); (first | refine k0 ?_ | refine jA fun _ => ?_ | refine jB fun _ => ?_ | refine kC (fun _ => ?_) fun _ => ?_ | (apply cx64; refine kl tx64 ?_) | (apply cx66; refine kl tx66 ?_) | (apply cx65; refine kl tx65 ?_) | (apply cx67; refine kl tx67 ?_) | (apply cx69; refine kl tx69 ?_) | (apply cx68; refine kl tx68 ?_) | (apply cx45; refine kl tx45 ?_) | refine jst ?_ | exact ⟨rfl, rfl⟩ | exact jV | fail))
      conv => whnf
      refine loopk (ι := Nat) (fun i => i ≤ rows.length ∧ ∀ j (h : j < rows.length), j < i → tkN s[k] rows rows[j] = false) (fun i => rows.length - i) (0) [2, 7] (fun i => [(10, .v false [i6 i])]) [none, none, none, some fun _ => some (true, dfC false s[k])] ?_
      refine ⟨⟨by omega, by intros; omega⟩, ?_, fun w hw => ?_⟩
      · exact jw []
      · repeat' ((conv => whnf); (first | refine k0 ?_ | (apply cx64; refine kl tx64 ?_) | (apply cx66; refine kl tx66 ?_) | (apply cx65; refine kl tx65 ?_) | (apply cx67; refine kl tx67 ?_) | (apply cx69; refine kl tx69 ?_) | (apply cx68; refine kl tx68 ?_) | (apply cx45; refine kl tx45 ?_) | refine jst ?_ | exact ⟨rfl, rfl⟩ | exact jV | fail))
        conv => whnf
        refine ⟨fun hlt2 => ?_, fun hge2 => ?_⟩
        · have hw2 : w < rows.length := by omega
          have hzr2 := (z4 w hw2).1
          have hT : T 45 [.val true (dfC false s[k]), aE rows, aE rows[w]] [vB (tkN s[k] rows rows[w])] [none, none, none] := tx45 hcd
          cases h5 : tkN s[k] rows rows[w]
          · rw [h5] at hT
            repeat' ((conv => whnf); (first | (apply cx45; refine kl (hT) ?_) | refine k0 ?_ | refine jA fun _ => ?_ | refine jB fun _ => ?_ | refine kC (fun _ => ?_) fun _ => ?_ | (apply cx64; refine kl tx64 ?_) | (apply cx66; refine kl tx66 ?_) | (apply cx65; refine kl tx65 ?_) | (apply cx67; refine kl tx67 ?_) | (apply cx69; refine kl tx69 ?_) | (apply cx68; refine kl tx68 ?_) | (apply cx45; refine kl tx45 ?_) | refine jst ?_ | exact ⟨rfl, rfl⟩ | exact jV | fail))
            refine ⟨⟨w + 1, by omega, all_suc hw.2 hw2 h5⟩, by simp only; omega, ?_⟩
            exact jw []
          · rw [h5] at hT
            repeat' ((conv => whnf); (first | (apply cx45; refine kl (hT) ?_) | refine k0 ?_ | refine jA fun _ => ?_ | refine jB fun _ => ?_ | refine kC (fun _ => ?_) fun _ => ?_ | (apply cx64; refine kl tx64 ?_) | (apply cx66; refine kl tx66 ?_) | (apply cx65; refine kl tx65 ?_) | (apply cx67; refine kl tx67 ?_) | (apply cx69; refine kl tx69 ?_) | (apply cx68; refine kl tx68 ?_) | (apply cx45; refine kl tx45 ?_) | refine jst ?_ | exact ⟨rfl, rfl⟩ | exact jV | fail))
            exact ⟨vB0 (bOf_n fun q => bft (q.2 w hw2) h5), rfl⟩
        · obtain rfl : w = rows.length := by omega
          repeat' ((conv => whnf); (first | refine k0 ?_ | refine jA fun _ => ?_ | refine jB fun _ => ?_ | refine kC (fun _ => ?_) fun _ => ?_ | (apply cx64; refine kl tx64 ?_) | (apply cx66; refine kl tx66 ?_) | (apply cx65; refine kl tx65 ?_) | (apply cx67; refine kl tx67 ?_) | (apply cx69; refine kl tx69 ?_) | (apply cx68; refine kl tx68 ?_) | (apply cx45; refine kl tx45 ?_) | refine jst ?_ | exact ⟨rfl, rfl⟩ | exact jV | fail))
          exact ⟨vB1 (bOf_y ⟨fun j hj => hrw j hj hj, fun j hj => hw.2 j hj hj⟩), rfl⟩

theorem cx32 {P : Program} {X : FuncId → List Arg → List (Bool × List Cell) → List (Option (List Cell)) → Prop} {a : List Arg} {Q : List (Bool × List Cell) → List (Option (List Cell)) → Prop} (h : ∃ b vals outs, a = b ∧ D P X (.call 32 b vals outs) ∧ Q vals outs) : CallS P X 32 a Q := ⟨h⟩

end Go.Proofs.YtopnaijeicknoaaGreatDoor
