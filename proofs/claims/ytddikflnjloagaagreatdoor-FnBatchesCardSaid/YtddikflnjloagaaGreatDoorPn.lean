/- What the law comes to: functions of the program, each with what it gives back, and the plain facts behind them. -/
import Derived.Test.YtddikflnjloagaaGreatDoorChecked
import Derived.IntWalk
import Derived.Test.YtddikflnjloagaaGreatDoorPf
import Derived.Test.YtddikflnjloagaaGreatDoorPk
import Derived.Test.YtddikflnjloagaaGreatDoorPl
import Derived.Test.YtddikflnjloagaaGreatDoorPm
namespace Go.Proofs.YtddikflnjloagaaGreatDoor

section
open Go Go.RowKit Go.IntWalk

open Enc (sz cs)

attribute [local irreducible] IntKind.wrap

/-! ### Tables are drawn, bent or not -/

attribute [local irreducible] blC inC sIC byC csR rwC ppN pkR fbN cdN opC1 vdC raC tdC csM apN mdN

theorem taC_0 {c e : Cur} {s : List Df} {most : Nat} {m : Tbs} (h : tdC c s most = (m, e)) (h0 : m.length = 0) : taC c s most = (m, e) := by
  unfold taC; rw [h]; exact if_pos h0

theorem taC_y {c e : Cur} {s : List Df} {most : Nat} {m : Tbs} (h : tdC c s most = (m, e)) (h0 : ¬ m.length = 0) : taC c s most = taW s m (blC e 16).1 (blC e 16).2 := by
  unfold taC; rw [h]; exact if_neg h0

theorem taW_0 {s : List Df} {m : Tbs} {c : Cur} (h : 0 < m.length) (hs : 0 < s.length) : taW s m 0 c = (m.set 0 (m[0] ++ [(raC c s[0].cols).1]), (raC c s[0].cols).2) := by
  unfold taW; rw [if_pos rfl, gd0 h]
  rw [List.getD_eq_getElem?_getD, List.getElem?_eq_getElem hs]; rfl

theorem taW_1 {s : List Df} {m : Tbs} {c : Cur} : taW s m 1 c = (m.drop 1, c) := by
  unfold taW; rw [if_neg (by decide), if_pos rfl]

theorem swp_set {t : List (List Vl)} (h : 1 < t.length) : swp t = (t.set 0 t[1]).set 1 t[0] := by
  unfold swp
  rw [List.getD_eq_getElem?_getD, List.getElem?_eq_getElem h, List.getD_eq_getElem?_getD, List.getElem?_eq_getElem (show 0 < t.length by omega)]; rfl

theorem taW_2y {s : List Df} {m : Tbs} {c : Cur} (h : 0 < m.length) (h1 : 1 < m[0].length) : taW s m 2 c = (m.set 0 ((m[0].set 0 m[0][1]).set 1 m[0][0]), c) := by
  unfold taW; rw [if_neg (by decide), if_neg (by decide), if_pos rfl, gd0 h, if_pos h1, swp_set h1]

theorem taW_2n {s : List Df} {m : Tbs} {c : Cur} (h : 0 < m.length) (h1 : ¬ 1 < m[0].length) : taW s m 2 c = (m, c) := by
  unfold taW; rw [if_neg (by decide), if_neg (by decide), if_pos rfl, gd0 h, if_neg h1]

theorem taW_3 {s : List Df} {m : Tbs} {w : Nat} {c : Cur} (h0 : ¬ w = 0) (h1 : ¬ w = 1) (h2 : ¬ w = 2) : taW s m w c = (m, c) := by
  unfold taW; rw [if_neg h0, if_neg h1, if_neg h2]

theorem rowF {t : List (List Vl)} {r : List Vl} : cs false t ++ [slE false r] ++ [] = cs false (t ++ [r]) := by
  rw [Enc.app, List.append_nil]; rfl

theorem sl_m0 {id n : Nat} (h : n = 1) : sliceT (.ref id 0 n 1) 1 1 n = some (.sl false 0 1 []) := by subst h; rfl

theorem sl_m1 {id n : Nat} (h : 1 < n) : sliceT (.ref id 0 n 1) 1 1 n = some (.ref id (0 + 1 * 1) (n - 1) 1) := by
  unfold sliceT
  rw [if_pos (by omega)]
  show (if n ≤ n ∧ 1 = 1 then _ else _) = _
  rw [if_pos ⟨Nat.le_refl _, rfl⟩, if_neg (by omega)]

theorem cs_1 {m : Tbs} : ((cs false m).drop (0 + 1 * 1)).take ((m.length - 1) * 1) = cs false (m.drop 1) := by
  have e : cs false m = cs false (m.take 1) ++ cs false (m.drop 1) := by rw [← Enc.app, List.take_append_drop]
  cases m with
  | nil => rfl
  | cons t m =>
    show (cs false m).take (m.length * 1) = cs false m
    exact List.take_of_length_le (by rw [cs_len]; show m.length * 1 ≤ _; omega)

theorem sn_1 {m : Tbs} (h : 1 < m.length) : (0 + 1 * 1) + (m.length - 1) * 1 ≤ (cs false m).length ∧ (((cs false m).drop (0 + 1 * 1)).take ((m.length - 1) * 1)).all Cell.shal = true :=
  ⟨by rw [cs_len]; show _ ≤ m.length * 1; omega, by rw [cs_1]; exact cs_shal _⟩

attribute [local irreducible] taC taW

set_option maxHeartbeats 2000000 in
set_option maxRecDepth 100000 in
theorem tx64 {c : Cur} {s : List Df} {most : Nat} (hc : CurOk c := by first | assumption | omega | (simp; done) | (simp; omega)) (hs : ScB s := by first | assumption | omega | (simp; done) | (simp; omega)) (hm : 0 < most ∧ most ≤ 100 := by first | assumption | omega | (simp; done) | (simp; omega)) : T 64 [aC c, aE s, aI (most : Nat)] [(true, [slE false (taC c s most).1])] [some (cuC (taC c s most).2), none, none] := by
  refine w_call md [] Tryz.func64 rfl ?_
  have hz := hs.z
  have hp : 0 < s.length := hs.pos
  have k1 := tdC_ok (s := s) (most := most) hc
  have hmz := tdC_z (c := c) hs hm.1 hm.2
  have hD := tx36 (c := c) (s := s) (most := most) hc hs hm
  obtain ⟨m, e, h1⟩ : ∃ m e, tdC c s most = (m, e) := ⟨_, _, rfl⟩
  rw [h1] at k1 hmz hD
  simp only at k1 hmz hD
  obtain ⟨z1, z2⟩ := zMdb_b (m := m) (by omega)
  by_cases h0 : m.length = 0
  · rw [taC_0 h1 h0]
    repeat' ((conv => whnf); (first | (apply cx36; refine kl (hD) ?_) | refine bstep (w_freeze 4 rfl (csM_ro (m := m))) ?_ | refine ⟨snl (by simp), cs false (m), csl (by simp), ?_⟩ | refine k0 ?_ | refine jA fun _ => ?_ | refine jB fun _ => ?_ | refine kC (fun _ => ?_) fun _ => ?_ | (apply cx72; refine kl tx72 ?_) | (apply cx101; refine kl tx101 ?_) | refine jst ?_ | exact ⟨rfl, rfl⟩ | exact jV | fail))
  rw [taC_y h1 h0]
  have hm0 : 0 < m.length := by omega
  have k2 := blC_ok (n := 16) k1
  obtain ⟨w, hw⟩ : ∃ w, (blC e 16).1 = w := ⟨_, rfl⟩
  have hB : T 72 [aC e, aI (16 : Nat)] [vI (w : Nat)] [some (cuC (blC e 16).2), none] := by
    have h := tx72 (c := e) (n := 16) k1 (by decide)
    rwa [hw] at h
  rw [hw]
  obtain ⟨z3, z4⟩ := z2 0 hm0
  by_cases w0 : w = 0
  · subst w0
    rw [taW_0 hm0 hp]
    have hA := tx101 (s := s) (c := (blC e 16).2) k2 hs
    generalize raC (blC e 16).2 s[0].cols = q at *
    obtain ⟨row, u⟩ := q
    simp only at hA ⊢
    repeat' ((conv => whnf); (first | (apply cx36; refine kl (hD) ?_) | (apply cx72; refine kl (hB) ?_) | refine bstep (w_out 4 (csM (m.take 0)) (csM (m.drop 1)) rfl (csM_split hm0) rfl) ?_ | (apply cx101; refine kl (hA) ?_) | refine ko (mixL (csMA_len hm0)) ?_ | refine jap (m := 1) (N := [.ref 151 0 row.length 3]) (apR (o := false) (xs := m[0]) ?_) | refine ko (mixP (csMA_len hm0)) ?_ | refine bstep ((w_inF false 183 151 (cs false m[0]) row [] row.length 3 (cs1 := cs false (m[0] ++ [row])) rowF).trans ((w_inM 4 183 (csM (m.take 0)) (m[0] ++ [row]) (csM (m.drop 1)) (m[0].length + 1) (cs1 := csM (m.set 0 (m[0] ++ [row]))) (csM_set hm0)).trans (w_freeze 4 rfl (csM_ro (m := m.set 0 (m[0] ++ [row])))))) ?_ | refine ⟨snl (by simp), cs false (m.set 0 (m[0] ++ [row])), csl (by simp), ?_⟩ | refine k0 ?_ | refine jA fun _ => ?_ | refine jB fun _ => ?_ | refine kC (fun _ => ?_) fun _ => ?_ | refine jst ?_ | exact ⟨rfl, rfl⟩ | exact jV | fail))
    exact ⟨congrArg (fun n => [(true, [Cell.sl false n 1 (cs false (m.set 0 (m[0] ++ [row])))])]) List.length_set.symm, rfl⟩
  by_cases w1 : w = 1
  · subst w1
    rw [taW_1]
    by_cases hl1 : m.length = 1
    · have hd1 : m.drop 1 = [] := List.drop_eq_nil_of_le (by omega)
      rw [hd1]
      repeat' ((conv => whnf); (first | (apply cx36; refine kl (hD) ?_) | (apply cx72; refine kl (hB) ?_) | refine bstep (w_freeze 4 rfl (csM_ro (m := m))) ?_ | refine Exists.intro _ (Exists.intro _ (Exists.intro _ (And.intro rfl (And.intro rfl (And.intro (sl_m0 hl1) ?_))))) | refine k0 ?_ | refine jA fun _ => ?_ | refine jB fun _ => ?_ | refine kC (fun _ => ?_) fun _ => ?_ | (apply cx101; refine kl tx101 ?_) | refine jst ?_ | exact ⟨rfl, rfl⟩ | exact jV | fail))
    · repeat' ((conv => whnf); (first | (apply cx36; refine kl (hD) ?_) | (apply cx72; refine kl (hB) ?_) | refine bstep (w_freeze 4 rfl (csM_ro (m := m))) ?_ | refine Exists.intro _ (Exists.intro _ (Exists.intro _ (And.intro rfl (And.intro rfl (And.intro (sl_m1 (by omega)) ?_))))) | refine ⟨sn_1 (by omega), cs false (m.drop 1), cs_1, ?_⟩ | refine k0 ?_ | refine jA fun _ => ?_ | refine jB fun _ => ?_ | refine kC (fun _ => ?_) fun _ => ?_ | (apply cx101; refine kl tx101 ?_) | refine jst ?_ | exact ⟨rfl, rfl⟩ | exact jV | fail))
      exact ⟨congrArg (fun n => [(true, [Cell.sl false n 1 (cs false (m.drop 1))])]) List.length_drop.symm, rfl⟩
  by_cases w2 : w = 2
  · subst w2
    by_cases h2 : 1 < m[0].length
    · rw [taW_2y hm0 h2]
      have h20 : 0 < m[0].length := by omega
      repeat' ((conv => whnf); (first | (apply cx36; refine kl (hD) ?_) | (apply cx72; refine kl (hB) ?_) | refine bstep (w_out 4 (csM (m.take 0)) (csM (m.drop 1)) rfl (csM_split hm0) rfl) ?_ | refine ko (mixL (csMA_len hm0)) ?_ | refine ko (jc (o := false) (xs := m[0]) (i := 0) (h := h20)) ?_ | refine ko (jc (o := false) (xs := m[0]) (i := 1) (h := h2)) ?_ | refine ko (jp (o := false) (xs := m[0]) (i := 0) (y := m[0][1]) (h := h20)) ?_ | refine ko (jp (o := false) (xs := m[0].set 0 m[0][1]) (i := 1) (y := m[0][0]) (h := by rw [List.length_set]; exact h2)) ?_ | refine bstep ((w_inM 4 6 (csM (m.take 0)) ((m[0].set 0 m[0][1]).set 1 m[0][0]) (csM (m.drop 1)) m[0].length (cs1 := csM (m.set 0 ((m[0].set 0 m[0][1]).set 1 m[0][0]))) (csM_set hm0)).trans (w_freeze 4 rfl (csM_ro (m := m.set 0 ((m[0].set 0 m[0][1]).set 1 m[0][0]))))) ?_ | refine ⟨snl (by simp), cs false (m.set 0 ((m[0].set 0 m[0][1]).set 1 m[0][0])), csl (by simp), ?_⟩ | refine k0 ?_ | refine jA fun _ => ?_ | refine jB fun _ => ?_ | refine kC (fun _ => ?_) fun _ => ?_ | (apply cx101; refine kl tx101 ?_) | refine jst ?_ | exact ⟨rfl, rfl⟩ | exact jV | fail))
      exact ⟨congrArg (fun n => [(true, [Cell.sl false n 1 (cs false (m.set 0 ((m[0].set 0 m[0][1]).set 1 m[0][0])))])]) List.length_set.symm, rfl⟩
    · rw [taW_2n hm0 h2]
      repeat' ((conv => whnf); (first | (apply cx36; refine kl (hD) ?_) | (apply cx72; refine kl (hB) ?_) | refine And.intro ⟨by omega, by omega⟩ (Exists.intro _ (And.intro (rdI (i := 0) (by omega) (by omega)) ?_)) | refine bstep (w_freeze 4 rfl (csM_ro (m := m))) ?_ | refine ⟨snl (by simp), cs false (m), csl (by simp), ?_⟩ | refine k0 ?_ | refine jA fun _ => ?_ | refine jB fun _ => ?_ | refine kC (fun _ => ?_) fun _ => ?_ | (apply cx101; refine kl tx101 ?_) | refine jst ?_ | exact ⟨rfl, rfl⟩ | exact jV | fail))
  rw [taW_3 w0 w1 w2]
  repeat' ((conv => whnf); (first | (apply cx36; refine kl (hD) ?_) | (apply cx72; refine kl (hB) ?_) | refine bstep (w_freeze 4 rfl (csM_ro (m := m))) ?_ | refine ⟨snl (by simp), cs false (m), csl (by simp), ?_⟩ | refine k0 ?_ | refine jA fun _ => ?_ | refine jB fun _ => ?_ | refine kC (fun _ => ?_) fun _ => ?_ | (apply cx101; refine kl tx101 ?_) | refine jst ?_ | exact ⟨rfl, rfl⟩ | exact jV | fail))

theorem cx64 {P : Program} {X : FuncId → List Arg → List (Bool × List Cell) → List (Option (List Cell)) → Prop} {a : List Arg} {Q : List (Bool × List Cell) → List (Option (List Cell)) → Prop} (h : ∃ b vals outs, a = b ∧ D P X (.call 64 b vals outs) ∧ Q vals outs) : CallS P X 64 a Q := ⟨h⟩
end

section
open Go Go.RowKit Go.IntWalk

open Enc (sz cs)

attribute [local irreducible] IntKind.wrap

/-! ### What the laws draw -/

attribute [local irreducible] blC inC sIC byC csR rwC ppN pkR fbN cdN opC1 oaC vdC raC tdC taC csM apN mdN ldC laC dsC nwC

set_option maxHeartbeats 2000000 in
set_option maxRecDepth 100000 in
theorem tx30 {b : List UInt8} (hb : b.length ≤ 1048576 := by first | assumption | omega | (simp; done) | (simp; omega)) : T 30 [aE b] [(false, [slE false (doS b).1]), (true, [slE false (doM b).1]), (true, [i6 (doO b).1.kind, i6 (doO b).1.t, slE false (doO b).1.row])] [none] := by
  refine w_call md [] Tryz.func30 rfl ?_
  have h1 := nwC_ok hb
  have hsb := dsC_b (c := nwC b)
  have k1 := dsC_ok h1
  have hsz := szC_b (b := b) (most := 14) (by decide)
  have hS := tx63 (c := nwC b) h1
  have hZ := tx37 (b := b) (most := 14) hb
  unfold doO doM doS
  generalize dsC (nwC b) = q at *
  obtain ⟨s, c1⟩ := q
  simp only at hsb k1 hS ⊢
  have hz := hsb.z
  have hM := tx64 (c := c1) (s := s) (most := szC b 14) k1 hsb (by omega)
  have k2 := taC_ok (s := s) (most := szC b 14) k1
  generalize szC b 14 = n at *
  generalize taC c1 s n = q at *
  obtain ⟨m, c2⟩ := q
  simp only at hM k2 ⊢
  have hO := tx69 (s := s) (c := c2) k2 hsb
  generalize oaC c2 s = q at *
  obtain ⟨⟨kd, t, row⟩, c3⟩ := q
  simp only at hO ⊢
  repeat' ((conv => whnf); (first | (apply cx34; refine kl (tx34 (b := b)) ?_) | (apply cx63; refine kl (hS) ?_) | (apply cx37; refine kl (hZ) ?_) | (apply cx64; refine kl (hM) ?_) | (apply cx69; refine kl (hO) ?_) | refine k0 ?_ | refine jA fun _ => ?_ | refine jB fun _ => ?_ | refine kC (fun _ => ?_) fun _ => ?_ | refine jst ?_ | exact ⟨rfl, rfl⟩ | exact jV | fail))

theorem cx30 {P : Program} {X : FuncId → List Arg → List (Bool × List Cell) → List (Option (List Cell)) → Prop} {a : List Arg} {Q : List (Bool × List Cell) → List (Option (List Cell)) → Prop} (h : ∃ b vals outs, a = b ∧ D P X (.call 30 b vals outs) ∧ Q vals outs) : CallS P X 30 a Q := ⟨h⟩
end

section
open Go Go.RowKit Go.IntWalk

open Enc (sz cs)

attribute [local irreducible] IntKind.wrap

/-! ### An operation -/

attribute [local irreducible] pkR ppN bOf fbN cdN rpN atN tkN moS moI clN2 lkK apN

set_option maxHeartbeats 2000000 in
set_option maxRecDepth 100000 in
theorem tx13 {s : List Df} {m : Tbs} {kd t : Int} {row : List Vl} (hs : zSc s ≤ 2000000 := by first | assumption | omega | (simp; done) | (simp; omega)) (hm : zMdb m + zRow row ≤ 1900000 := by first | assumption | omega | (simp; done) | (simp; omega)) : T 13 [aE s, .val true [slE false m], .val true [i6 kd, i6 t, slE false row]] [(true, [slE true (apN s m ⟨kd, t, row⟩).1]), vI (apN s m ⟨kd, t, row⟩).2] [none, none, none] := by
  refine w_call md [[1], []] Tryz.func13 rfl ?_
  have hm2 : zMdb m ≤ 2000000 := by omega
  have hz := apN_z (s := s) (m := m) (o := ⟨kd, t, row⟩)
  obtain ⟨M, c, hr⟩ : ∃ M c, apN s m ⟨kd, t, row⟩ = (M, c) := ⟨_, _, rfl⟩
  rw [hr] at hz ⊢
  simp only at hz
  cases hmo : moS s m with
  | false =>
    rw [apN_1 (fun q => bft hmo q.1)] at hr
    obtain ⟨rfl, rfl⟩ : m = M ∧ 1 = c := ⟨congrArg Prod.fst hr, congrArg Prod.snd hr⟩
    have hM : T 17 [aE s, .val true [slE false m]] [vB false] [none, none] := by
      have h := tx17 (s := s) (m := m)
      rwa [moIS, hmo] at h
    repeat' ((conv => whnf); (first | (apply cx17; refine kl (hM) ?_) | (apply cx46; refine kl (tx46 (m := m)) ?_) | refine k0 ?_ | refine jA fun _ => ?_ | refine jB fun _ => ?_ | refine kC (fun _ => ?_) fun _ => ?_ | (apply cx17; refine kl tx17 ?_) | (apply cx45; refine kl tx45 ?_) | (apply cx46; refine kl tx46 ?_) | (apply cx47; refine kl tx47 ?_) | refine jst ?_ | exact ⟨rfl, rfl⟩ | exact jV | fail))
  | true =>
    have hM : T 17 [aE s, .val true [slE false m]] [vB true] [none, none] := by
      have h := tx17 (s := s) (m := m)
      rwa [moIS, hmo] at h
    cases hk : inB kd 1 4 with
    | false =>
      rw [apN_1 (o := ⟨kd, t, row⟩) (fun q => bft hk q.2)] at hr
      obtain ⟨rfl, rfl⟩ : m = M ∧ 1 = c := ⟨congrArg Prod.fst hr, congrArg Prod.snd hr⟩
      have hI : T 45 [aI kd, aI 1, aI 4] [vB false] [none, none, none] := by
        have h := tx45 (n := kd) (l := 1) (h := 4)
        rwa [hk] at h
      repeat' ((conv => whnf); (first | (apply cx17; refine kl (hM) ?_) | (apply cx45; refine kl (hI) ?_) | (apply cx46; refine kl (tx46 (m := m)) ?_) | refine k0 ?_ | refine jA fun _ => ?_ | refine jB fun _ => ?_ | refine kC (fun _ => ?_) fun _ => ?_ | (apply cx17; refine kl tx17 ?_) | (apply cx45; refine kl tx45 ?_) | (apply cx46; refine kl tx46 ?_) | (apply cx47; refine kl tx47 ?_) | refine jst ?_ | exact ⟨rfl, rfl⟩ | exact jV | fail))
    | true =>
      have hI : T 45 [aI kd, aI 1, aI 4] [vB true] [none, none, none] := by
        have h := tx45 (n := kd) (l := 1) (h := 4)
        rwa [hk] at h
      have hA : T 47 [aE s, .val true [slE false m], .val true [i6 kd, i6 t, slE false row]] [(true, [slE false M]), vI c] [none, none, none] := by
        have h := tx47 (s := s) (m := m) (kd := kd) (t := t) (row := row)
        rwa [hr] at h
      repeat' ((conv => whnf); (first | (apply cx17; refine kl (hM) ?_) | (apply cx45; refine kl (hI) ?_) | (apply cx47; refine kl (hA) ?_) | (apply cx46; refine kl (tx46 (m := M)) ?_) | refine k0 ?_ | refine jA fun _ => ?_ | refine jB fun _ => ?_ | refine kC (fun _ => ?_) fun _ => ?_ | (apply cx17; refine kl tx17 ?_) | (apply cx45; refine kl tx45 ?_) | (apply cx46; refine kl tx46 ?_) | (apply cx47; refine kl tx47 ?_) | refine jst ?_ | exact ⟨rfl, rfl⟩ | exact jV | fail))

theorem cx13 {P : Program} {X : FuncId → List Arg → List (Bool × List Cell) → List (Option (List Cell)) → Prop} {a : List Arg} {Q : List (Bool × List Cell) → List (Option (List Cell)) → Prop} (h : ∃ b vals outs, a = b ∧ D P X (.call 13 b vals outs) ∧ Q vals outs) : CallS P X 13 a Q := ⟨h⟩
end

section
open Go Go.RowKit Go.IntWalk

open Enc (sz cs)

attribute [local irreducible] IntKind.wrap

attribute [local irreducible] fbN cdN moS apN ldC dsC tdC taC opC1 oaC nwC

set_option maxRecDepth 100000 in
theorem tx8 {b : List UInt8} : T 8 [aE b] [vB (decide (1048576 < (b.length : Int)))] [none] := by
  refine w_call md [] Tryz.func8 rfl ?_
  repeat' ((conv => whnf); (first | refine k0 ?_ | refine jA fun _ => ?_ | refine jB fun _ => ?_ | refine kC (fun _ => ?_) fun _ => ?_ | refine jst ?_ | exact ⟨rfl, rfl⟩ | exact jV | fail))
  all_goals first | exact ⟨by rw [decide_eq_true (by omega)], rfl⟩ | exact ⟨by rw [decide_eq_false (by omega)], rfl⟩

theorem cx8 {P : Program} {X : FuncId → List Arg → List (Bool × List Cell) → List (Option (List Cell)) → Prop} {a : List Arg} {Q : List (Bool × List Cell) → List (Option (List Cell)) → Prop} (h : ∃ b vals outs, a = b ∧ D P X (.call 8 b vals outs) ∧ Q vals outs) : CallS P X 8 a Q := ⟨h⟩

set_option maxRecDepth 100000 in
theorem tx28 {l : List Vl} (hl : l.length ≤ 10000000 := by first | assumption | omega | (simp; done) | (simp; omega)) : T 28 [aE l, aE l] [vB true] [none, none] := by
  refine w_call md [] Tryz.func28 rfl ?_
  repeat' ((conv => whnf); (first | refine k0 ?_ | refine jA fun _ => ?_ | refine jB fun _ => ?_ | refine kC (fun _ => ?_) fun _ => ?_ | refine jst ?_ | exact ⟨rfl, rfl⟩ | exact jV | fail))
  conv => whnf
  refine loopk (ι := Nat) (fun i => i ≤ l.length) (fun i => l.length - i) (0) [0, 1] (fun i => [(5, .v false [i6 i])]) [none, none] ?_
  refine ⟨by omega, ?_, fun i hi => ?_⟩
  · exact jw []
  · repeat' ((conv => whnf); (first | refine k0 ?_ | refine jst ?_ | exact ⟨rfl, rfl⟩ | exact jV | fail))
    conv => whnf
    refine ⟨fun hlt => ?_, fun hge => ?_⟩
    · have hi2 : i < l.length := by omega
      repeat' ((conv => whnf); (first | refine ko (eqV_y rfl) ?_ | refine k0 ?_ | refine jA fun _ => ?_ | refine jB fun _ => ?_ | refine kC (fun _ => ?_) fun _ => ?_ | refine jst ?_ | exact ⟨rfl, rfl⟩ | exact jV | fail))
      refine ⟨⟨i + 1, by omega⟩, by simp only; omega, ?_⟩
      exact jw []
    · repeat' ((conv => whnf); (first | refine k0 ?_ | refine jA fun _ => ?_ | refine jB fun _ => ?_ | refine kC (fun _ => ?_) fun _ => ?_ | refine jst ?_ | exact ⟨rfl, rfl⟩ | exact jV | fail))

theorem cx28 {P : Program} {X : FuncId → List Arg → List (Bool × List Cell) → List (Option (List Cell)) → Prop} {a : List Arg} {Q : List (Bool × List Cell) → List (Option (List Cell)) → Prop} (h : ∃ b vals outs, a = b ∧ D P X (.call 28 b vals outs) ∧ Q vals outs) : CallS P X 28 a Q := ⟨h⟩

set_option maxRecDepth 100000 in
theorem tx58 {t : List (List Vl)} (hl : t.length ≤ 10000000 := by first | assumption | omega | (simp; done) | (simp; omega)) (hel : ∀ x ∈ t, x.length ≤ 10000000 := by assumption) : T 58 [aE t, aE t] [vB true] [none, none] := by
  refine w_call md [] Tryz.func58 rfl ?_
  repeat' ((conv => whnf); (first | refine k0 ?_ | refine jA fun _ => ?_ | refine jB fun _ => ?_ | refine kC (fun _ => ?_) fun _ => ?_ | (apply cx28; refine kl tx28 ?_) | refine jst ?_ | exact ⟨rfl, rfl⟩ | exact jV | fail))
  conv => whnf
  refine loopk (ι := Nat) (fun i => i ≤ t.length) (fun i => t.length - i) (0) [0, 1] (fun i => [(5, .v false [i6 i])]) [none, none] ?_
  refine ⟨by omega, ?_, fun i hi => ?_⟩
  · exact jw []
  · repeat' ((conv => whnf); (first | refine k0 ?_ | (apply cx28; refine kl tx28 ?_) | refine jst ?_ | exact ⟨rfl, rfl⟩ | exact jV | fail))
    conv => whnf
    refine ⟨fun hlt => ?_, fun hge => ?_⟩
    · have hi2 : i < t.length := by omega
      have he := hel _ (List.getElem_mem hi2)
      repeat' ((conv => whnf); (first | (apply cx28; refine kl (tx28 (l := t[i])) ?_) | refine k0 ?_ | refine jA fun _ => ?_ | refine jB fun _ => ?_ | refine kC (fun _ => ?_) fun _ => ?_ | refine jst ?_ | exact ⟨rfl, rfl⟩ | exact jV | fail))
      refine ⟨⟨i + 1, by omega⟩, by simp only; omega, ?_⟩
      exact jw []
    · repeat' ((conv => whnf); (first | refine k0 ?_ | refine jA fun _ => ?_ | refine jB fun _ => ?_ | refine kC (fun _ => ?_) fun _ => ?_ | (apply cx28; refine kl tx28 ?_) | refine jst ?_ | exact ⟨rfl, rfl⟩ | exact jV | fail))

theorem cx58 {P : Program} {X : FuncId → List Arg → List (Bool × List Cell) → List (Option (List Cell)) → Prop} {a : List Arg} {Q : List (Bool × List Cell) → List (Option (List Cell)) → Prop} (h : ∃ b vals outs, a = b ∧ D P X (.call 58 b vals outs) ∧ Q vals outs) : CallS P X 58 a Q := ⟨h⟩

set_option maxRecDepth 100000 in
theorem tx16 {m : Tbs} (hl : m.length ≤ 10000000 := by first | assumption | omega | (simp; done) | (simp; omega)) (hm : ∀ x ∈ m, OkTb x := by first | assumption | omega | (simp; done) | (simp; omega)) : T 16 [.val true [slE false m], .val true [slE false m]] [vB true] [none, none] := by
  refine w_call md [] Tryz.func16 rfl ?_
  repeat' ((conv => whnf); (first | refine k0 ?_ | refine jA fun _ => ?_ | refine jB fun _ => ?_ | refine kC (fun _ => ?_) fun _ => ?_ | (apply cx58; refine kl tx58 ?_) | refine jst ?_ | exact ⟨rfl, rfl⟩ | exact jV | fail))
  conv => whnf
  refine loopk (ι := Nat) (fun i => i ≤ m.length) (fun i => m.length - i) (0) [2, 3] (fun i => [(5, .v false [i6 i])]) [none, none, none, none] ?_
  refine ⟨by omega, ?_, fun i hi => ?_⟩
  · exact jw []
  · repeat' ((conv => whnf); (first | refine k0 ?_ | (apply cx58; refine kl tx58 ?_) | refine jst ?_ | exact ⟨rfl, rfl⟩ | exact jV | fail))
    conv => whnf
    refine ⟨fun hlt => ?_, fun hge => ?_⟩
    · have hi2 : i < m.length := by omega
      obtain ⟨he1, he2⟩ := hm _ (List.getElem_mem hi2)
      repeat' ((conv => whnf); (first | (apply cx58; refine kl (tx58 (t := m[i])) ?_) | refine And.intro ⟨by omega, by omega⟩ (Exists.intro _ (And.intro (rdI (i := i) (by omega) (by omega)) ?_)) | refine k0 ?_ | refine jA fun _ => ?_ | refine jB fun _ => ?_ | refine kC (fun _ => ?_) fun _ => ?_ | refine jst ?_ | exact ⟨rfl, rfl⟩ | exact jV | fail))
      refine ⟨⟨i + 1, by omega⟩, by simp only; omega, ?_⟩
      exact jw []
    · repeat' ((conv => whnf); (first | refine k0 ?_ | refine jA fun _ => ?_ | refine jB fun _ => ?_ | refine kC (fun _ => ?_) fun _ => ?_ | (apply cx58; refine kl tx58 ?_) | refine jst ?_ | exact ⟨rfl, rfl⟩ | exact jV | fail))

theorem cx16 {P : Program} {X : FuncId → List Arg → List (Bool × List Cell) → List (Option (List Cell)) → Prop} {a : List Arg} {Q : List (Bool × List Cell) → List (Option (List Cell)) → Prop} (h : ∃ b vals outs, a = b ∧ D P X (.call 16 b vals outs) ∧ Q vals outs) : CallS P X 16 a Q := ⟨h⟩
end

section
open Go Go.RowKit Go.IntWalk

open Enc (sz cs)

attribute [local irreducible] IntKind.wrap

/-! ### Batches are drawn -/

noncomputable abbrev dbS (b : List UInt8) : List Df × Cur := dsC (nwC b)

noncomputable abbrev dbM (b : List UInt8) : Tbs × Cur := taC (dbS b).2 (dbS b).1 (szC b 10)

/-- Maybe one that is bent. -/
noncomputable def dbA (s : List Df) (l : List Opn) (c : Cur) : List Opn × Cur :=
  if (onC c 4).1 = true then (l ++ [(oaC (onC c 4).2 s).1], (oaC (onC c 4).2 s).2) else (l, (onC c 4).2)

def dpR : Nat → List Opn → Cur → List Opn × Cur
  | 0, l, c => (l, c)
  | f + 1, l, c => if l.length < 10 + (blC c 2).1 then dpR f (l ++ [l.getD 0 ⟨0, 0, []⟩]) (blC c 2).2 else (l, (blC c 2).2)

def dbB (l : List Opn) (c : Cur) : List Opn × Cur := if (onC c 20).1 = true then dpR 12 l (onC c 20).2 else (l, (onC c 20).2)

noncomputable def dbL (b : List UInt8) : List Opn × Cur :=
  dbB (dbA (dbS b).1 (osC (dbM b).2 (dbS b).1 4).1 (osC (dbM b).2 (dbS b).1 4).2).1 (dbA (dbS b).1 (osC (dbM b).2 (dbS b).1 4).1 (osC (dbM b).2 (dbS b).1 4).2).2

theorem dpR_y {f : Nat} {l : List Opn} {c : Cur} (h0 : 0 < l.length) (h : l.length < 10 + (blC c 2).1) : dpR (f + 1) l c = dpR f (l ++ [l[0]]) (blC c 2).2 := by
  rw [dpR, if_pos h, List.getD_eq_getElem?_getD, List.getElem?_eq_getElem h0]; rfl

theorem dpR_n {f : Nat} {l : List Opn} {c : Cur} (h : ¬ l.length < 10 + (blC c 2).1) : dpR (f + 1) l c = (l, (blC c 2).2) := by
  rw [dpR]; exact if_neg h

theorem osR_len {s : List Df} : ∀ {i : Nat} {l : List Opn} {c : Cur}, (osR s i l c).1.length = l.length + i
  | 0, _, _ => rfl
  | i + 1, l, c => by
    rw [show osR s (i + 1) l c = osR s i (l ++ [(opC1 s c).1]) (opC1 s c).2 from rfl, osR_len, List.length_append, List.length_singleton]; omega

theorem osC_len {s : List Df} {c : Cur} {most : Nat} (h : 0 < most) : 0 < (osC c s most).1.length ∧ (osC c s most).1.length ≤ most := by
  have hb := blC_lt (c := c) h
  unfold osC
  rw [osR_len, List.length_nil]
  omega

theorem osC_ok {s : List Df} {c : Cur} {most : Nat} (h : CurOk c) : CurOk (osC c s most).2 := osR_ok (blC_ok h)

attribute [local irreducible] blC inC sIC byC csR rwC ppN pkR fbN cdN opC1 oaC vdC raC tdC taC csM apN mdN ldC laC dsC nwC osC dpR

theorem dbA_n {s : List Df} {l : List Opn} {c : Cur} (h : (onC c 4).1 = false) : dbA s l c = (l, (blC c 4).2) := by
  unfold dbA; exact if_neg (by rw [h]; decide)

theorem dbA_y {s : List Df} {l : List Opn} {c : Cur} (h : (onC c 4).1 = true) : dbA s l c = (l ++ [(oaC (blC c 4).2 s).1], (oaC (blC c 4).2 s).2) := by
  unfold dbA; exact if_pos h

theorem dbB_n {l : List Opn} {c : Cur} (h : (onC c 20).1 = false) : dbB l c = (l, (blC c 20).2) := by
  unfold dbB; exact if_neg (by rw [h]; decide)

theorem dbB_y {l : List Opn} {c : Cur} (h : (onC c 20).1 = true) : dbB l c = dpR 12 l (blC c 20).2 := by
  unfold dbB; exact if_pos h

attribute [local irreducible] dbA dbB

theorem oaC_ok {s : List Df} {c : Cur} (h : CurOk c) : CurOk (oaC c s).2 := by
  unfold oaC; exact oaW_ok (blC_ok (opC1_ok h))

set_option maxHeartbeats 2000000 in
set_option maxRecDepth 100000 in
theorem tx31 {b : List UInt8} (hb : b.length ≤ 1048576 := by first | assumption | omega | (simp; done) | (simp; omega)) : T 31 [aE b] [(false, [slE false (dbS b).1]), (true, [slE false (dbM b).1]), (false, [slE false (dbL b).1])] [none] := by
  refine w_call md [] Tryz.func31 rfl ?_
  have h1 := nwC_ok hb
  have hsb := dsC_b (c := nwC b)
  have k1 := dsC_ok h1
  have hsz := szC_b (b := b) (most := 10) (by decide)
  have hS := tx63 (c := nwC b) h1
  have hZ := tx37 (b := b) (most := 10) hb
  unfold dbL dbM dbS
  generalize dsC (nwC b) = q at *
  obtain ⟨s, c1⟩ := q
  simp only at hsb k1 hS ⊢
  have hz := hsb.z
  have hM := tx64 (c := c1) (s := s) (most := szC b 10) k1 hsb (by omega)
  have k2 := taC_ok (s := s) (most := szC b 10) k1
  generalize szC b 10 = n at *
  generalize taC c1 s n = q at *
  obtain ⟨m, c2⟩ := q
  simp only at hM k2 ⊢
  have hL := tx70 (s := s) (c := c2) (most := 4) k2 hsb (by decide)
  have hll := osC_len (s := s) (c := c2) (most := 4) (by decide)
  have k3 := osC_ok (s := s) (most := 4) k2
  generalize osC c2 s 4 = q at *
  obtain ⟨l0, c3⟩ := q
  simp only at hL hll k3 ⊢
  have k4 := blC_ok (n := 4) k3
  obtain ⟨e4, he4⟩ : ∃ e, (onC c3 4).1 = e := ⟨_, rfl⟩
  have hO4 := onT he4 k3 (by decide)
  have hA := tx69 (s := s) (c := (blC c3 4).2) k4 hsb
  have hl1 : 0 < (dbA s l0 c3).1.length ∧ (dbA s l0 c3).1.length ≤ 5 ∧ CurOk (dbA s l0 c3).2 := by
    cases e4
    · rw [dbA_n he4]; exact ⟨hll.1, Nat.le_trans hll.2 (by decide), k4⟩
    · rw [dbA_y he4]; exact ⟨by simp, by simp only [List.length_append, List.length_singleton]; omega, oaC_ok k4⟩
  obtain ⟨⟨l1, c5⟩, hq⟩ : ∃ q, dbA s l0 c3 = q := ⟨_, rfl⟩
  rw [hq] at hl1
  simp only at hl1
  obtain ⟨hl1, hl2, k5⟩ := hl1
  obtain ⟨e20, he20⟩ : ∃ e, (onC c5 20).1 = e := ⟨_, rfl⟩
  have hO20 := onT he20 k5 (by decide)
  have k6 := blC_ok (n := 20) k5
  rw [hq]
  simp only
  generalize hfin : dbB l1 c5 = fin
  cases e4
  · rw [dbA_n he4] at hq
    obtain ⟨rfl, rfl⟩ := Prod.mk.inj hq
    cases e20
    · rw [dbB_n he20] at hfin
      subst hfin
      repeat' ((conv => whnf); (first | (apply cx34; refine kl (tx34 (b := b)) ?_) | (apply cx63; refine kl (hS) ?_) | (apply cx37; refine kl (hZ) ?_) | (apply cx64; refine kl (hM) ?_) | (apply cx70; refine kl (hL) ?_) | (apply cx71; refine kl (hO4) ?_) | (apply cx71; refine kl (hO20) ?_) | (apply cx69; refine kl (hA) ?_) | refine bstep (w_freeze 4 rfl (cs_ro (l0))) ?_ | refine ⟨snl (by simp), cs false (l0), csl (by simp), ?_⟩ | refine k0 ?_ | refine jA fun _ => ?_ | refine jB fun _ => ?_ | refine kC (fun _ => ?_) fun _ => ?_ | (apply cx72; refine kl tx72 ?_) | refine jst ?_ | exact ⟨rfl, rfl⟩ | exact jV | fail))
    · rw [dbB_y he20] at hfin
      repeat' ((conv => whnf); (first | (apply cx34; refine kl (tx34 (b := b)) ?_) | (apply cx63; refine kl (hS) ?_) | (apply cx37; refine kl (hZ) ?_) | (apply cx64; refine kl (hM) ?_) | (apply cx70; refine kl (hL) ?_) | (apply cx71; refine kl (hO4) ?_) | (apply cx71; refine kl (hO20) ?_) | (apply cx69; refine kl (hA) ?_) | refine k0 ?_ | refine jA fun _ => ?_ | refine jB fun _ => ?_ | refine kC (fun _ => ?_) fun _ => ?_ | (apply cx72; refine kl tx72 ?_) | refine jst ?_ | exact ⟨rfl, rfl⟩ | exact jV | fail))
      conv => whnf
      refine loopk (ι := List Opn × Cur) (fun i => (∃ f, 12 ≤ f + i.1.length ∧ dpR f i.1 i.2 = fin) ∧ (0 < i.1.length ∧ i.1.length ≤ 11) ∧ CurOk i.2) (fun i => 12 - i.1.length) ((l0, (blC (blC c3 4).2 20).2)) [3, 5, 6, 7] (fun i => [(8, .v false [.ref 4 0 i.1.length 3])]) [none, none, some fun i => some (true, cuC i.2), none, some fun i => some (true, cs false i.1)] ?_
      refine ⟨⟨⟨12, by simp only; omega, hfin⟩, ⟨hl1, Nat.le_trans hl2 (by decide)⟩, k6⟩, ?_, fun z hz => ?_⟩
      · exact jw []
      · obtain ⟨l, u⟩ := z
        obtain ⟨⟨f, hf, hx⟩, ⟨hp, hl⟩, hu⟩ := hz
        simp only at hf hx hp hl hu
        have hb2 := blC_lt (c := u) (n := 2) (by decide)
        have hu2 := blC_ok (n := 2) hu
        have hsn : (l, u).1.length = l.length := rfl
        obtain ⟨g, rfl⟩ : ∃ g, f = g + 1 := ⟨f - 1, by omega⟩
        by_cases hlt : l.length < 10 + (blC u 2).1
        · rw [dpR_y hp hlt] at hx
          repeat' ((conv => whnf); (first | (apply cx72; refine kl (tx72 (c := u) (n := 2)) ?_) | refine ko (jc (o := false) (xs := l) (i := 0) (h := hp)) ?_ | refine jap (N := cs false ([l[0]] : List Opn)) (apE (o := false) (xs := l) (ys := [l[0]]) ?_) | refine k0 ?_ | refine jA fun _ => ?_ | refine jB fun _ => ?_ | refine kC (fun _ => ?_) fun _ => ?_ | (apply cx34; refine kl tx34 ?_) | (apply cx63; refine kl tx63 ?_) | (apply cx37; refine kl tx37 ?_) | (apply cx64; refine kl tx64 ?_) | (apply cx70; refine kl tx70 ?_) | (apply cx71; refine kl tx71 ?_) | (apply cx69; refine kl tx69 ?_) | refine jst ?_ | exact ⟨rfl, rfl⟩ | exact jV | fail))
          refine ⟨⟨(l ++ [l[0]], (blC u 2).2), ⟨⟨g, by rw [List.length_append, List.length_singleton]; omega, hx⟩, ⟨by simp, by rw [List.length_append, List.length_singleton]; omega⟩, hu2⟩⟩, by rw [List.length_append, List.length_singleton]; omega, ?_⟩
          exact w_autoX [0] (by (conv => whnf); exact And.intro (by kernel_rfl) (And.intro (by kernel_rfl) (by repeat' (first | (with_reducible exact rfl) | ((conv => whnf); first | exact trivial | exact (by rw [← len1]; exact ⟨rfl, rfl⟩) | exact (by rw [← len1]; rfl) | exact rfl | exact tvi (by first | omega | (dsimp only; omega) | (simp; done)) | exact tvr (by first | omega | (dsimp only; omega) | (simp; done) | (simp; omega)) | exact ⟨rfl, clo_i, by first | rfl | rw [List.take_length] | assumption⟩ | refine And.intro ?_ ?_)))))
        · rw [dpR_n hlt] at hx
          subst hx
          repeat' ((conv => whnf); (first | (apply cx72; refine kl (tx72 (c := u) (n := 2)) ?_) | refine bstep (w_freeze 4 rfl (cs_ro (l))) ?_ | refine ⟨snl (by simp), cs false (l), csl (by simp), ?_⟩ | refine k0 ?_ | refine jA fun _ => ?_ | refine jB fun _ => ?_ | refine kC (fun _ => ?_) fun _ => ?_ | (apply cx34; refine kl tx34 ?_) | (apply cx63; refine kl tx63 ?_) | (apply cx37; refine kl tx37 ?_) | (apply cx64; refine kl tx64 ?_) | (apply cx70; refine kl tx70 ?_) | (apply cx71; refine kl tx71 ?_) | (apply cx69; refine kl tx69 ?_) | refine jst ?_ | exact ⟨rfl, rfl⟩ | exact jV | fail))
  · rw [dbA_y he4] at hq
    generalize oaC (blC c3 4).2 s = q at *
    obtain ⟨⟨kd, t, row⟩, c4⟩ := q
    obtain ⟨rfl, rfl⟩ := Prod.mk.inj hq
    cases e20
    · rw [dbB_n he20] at hfin
      subst hfin
      repeat' ((conv => whnf); (first | (apply cx34; refine kl (tx34 (b := b)) ?_) | (apply cx63; refine kl (hS) ?_) | (apply cx37; refine kl (hZ) ?_) | (apply cx64; refine kl (hM) ?_) | (apply cx70; refine kl (hL) ?_) | (apply cx71; refine kl (hO4) ?_) | (apply cx71; refine kl (hO20) ?_) | (apply cx69; refine kl (hA) ?_) | refine jap (N := cs false ([⟨kd, t, row⟩] : List Opn)) (apE (o := false) (xs := l0) (ys := [⟨kd, t, row⟩]) ?_) | refine bstep (w_freeze 6 rfl (cs_ro (l0 ++ [⟨kd, t, row⟩]))) ?_ | refine ⟨snl (by simp), cs false (l0 ++ [⟨kd, t, row⟩]), csl (by simp), ?_⟩ | refine k0 ?_ | refine jA fun _ => ?_ | refine jB fun _ => ?_ | refine kC (fun _ => ?_) fun _ => ?_ | (apply cx72; refine kl tx72 ?_) | refine jst ?_ | exact ⟨rfl, rfl⟩ | exact jV | fail))
    · rw [dbB_y he20] at hfin
      repeat' ((conv => whnf); (first | (apply cx34; refine kl (tx34 (b := b)) ?_) | (apply cx63; refine kl (hS) ?_) | (apply cx37; refine kl (hZ) ?_) | (apply cx64; refine kl (hM) ?_) | (apply cx70; refine kl (hL) ?_) | (apply cx71; refine kl (hO4) ?_) | (apply cx71; refine kl (hO20) ?_) | (apply cx69; refine kl (hA) ?_) | refine jap (N := cs false ([⟨kd, t, row⟩] : List Opn)) (apE (o := false) (xs := l0) (ys := [⟨kd, t, row⟩]) ?_) | refine k0 ?_ | refine jA fun _ => ?_ | refine jB fun _ => ?_ | refine kC (fun _ => ?_) fun _ => ?_ | (apply cx72; refine kl tx72 ?_) | refine jst ?_ | exact ⟨rfl, rfl⟩ | exact jV | fail))
      conv => whnf
      refine loopk (ι := List Opn × Cur) (fun i => (∃ f, 12 ≤ f + i.1.length ∧ dpR f i.1 i.2 = fin) ∧ (0 < i.1.length ∧ i.1.length ≤ 11) ∧ CurOk i.2) (fun i => 12 - i.1.length) ((l0 ++ [⟨kd, t, row⟩], (blC c4 20).2)) [3, 5, 6, 7] (fun i => [(8, .v false [.ref 4 0 i.1.length 3])]) [none, none, some fun i => some (true, cuC i.2), none, some fun i => some (true, cs false i.1)] ?_
      refine ⟨⟨⟨12, by simp only; omega, hfin⟩, ⟨hl1, Nat.le_trans hl2 (by decide)⟩, k6⟩, ?_, fun z hz => ?_⟩
      · exact jw []
      · obtain ⟨l, u⟩ := z
        obtain ⟨⟨f, hf, hx⟩, ⟨hp, hl⟩, hu⟩ := hz
        simp only at hf hx hp hl hu
        have hb2 := blC_lt (c := u) (n := 2) (by decide)
        have hu2 := blC_ok (n := 2) hu
        have hsn : (l, u).1.length = l.length := rfl
        obtain ⟨g, rfl⟩ : ∃ g, f = g + 1 := ⟨f - 1, by omega⟩
        by_cases hlt : l.length < 10 + (blC u 2).1
        · rw [dpR_y hp hlt] at hx
          repeat' ((conv => whnf); (first | (apply cx72; refine kl (tx72 (c := u) (n := 2)) ?_) | refine ko (jc (o := false) (xs := l) (i := 0) (h := hp)) ?_ | refine jap (N := cs false ([l[0]] : List Opn)) (apE (o := false) (xs := l) (ys := [l[0]]) ?_) | refine k0 ?_ | refine jA fun _ => ?_ | refine jB fun _ => ?_ | refine kC (fun _ => ?_) fun _ => ?_ | (apply cx34; refine kl tx34 ?_) | (apply cx63; refine kl tx63 ?_) | (apply cx37; refine kl tx37 ?_) | (apply cx64; refine kl tx64 ?_) | (apply cx70; refine kl tx70 ?_) | (apply cx71; refine kl tx71 ?_) | (apply cx69; refine kl tx69 ?_) | refine jst ?_ | exact ⟨rfl, rfl⟩ | exact jV | fail))
          refine ⟨⟨(l ++ [l[0]], (blC u 2).2), ⟨⟨g, by rw [List.length_append, List.length_singleton]; omega, hx⟩, ⟨by simp, by rw [List.length_append, List.length_singleton]; omega⟩, hu2⟩⟩, by rw [List.length_append, List.length_singleton]; omega, ?_⟩
          exact w_autoX [0] (by (conv => whnf); exact And.intro (by kernel_rfl) (And.intro (by kernel_rfl) (by repeat' (first | (with_reducible exact rfl) | ((conv => whnf); first | exact trivial | exact (by rw [← len1]; exact ⟨rfl, rfl⟩) | exact (by rw [← len1]; rfl) | exact rfl | exact tvi (by first | omega | (dsimp only; omega) | (simp; done)) | exact tvr (by first | omega | (dsimp only; omega) | (simp; done) | (simp; omega)) | exact ⟨rfl, clo_i, by first | rfl | rw [List.take_length] | assumption⟩ | refine And.intro ?_ ?_)))))
        · rw [dpR_n hlt] at hx
          subst hx
          repeat' ((conv => whnf); (first | (apply cx72; refine kl (tx72 (c := u) (n := 2)) ?_) | refine bstep (w_freeze 4 rfl (cs_ro (l))) ?_ | refine ⟨snl (by simp), cs false (l), csl (by simp), ?_⟩ | refine k0 ?_ | refine jA fun _ => ?_ | refine jB fun _ => ?_ | refine kC (fun _ => ?_) fun _ => ?_ | (apply cx34; refine kl tx34 ?_) | (apply cx63; refine kl tx63 ?_) | (apply cx37; refine kl tx37 ?_) | (apply cx64; refine kl tx64 ?_) | (apply cx70; refine kl tx70 ?_) | (apply cx71; refine kl tx71 ?_) | (apply cx69; refine kl tx69 ?_) | refine jst ?_ | exact ⟨rfl, rfl⟩ | exact jV | fail))

theorem cx31 {P : Program} {X : FuncId → List Arg → List (Bool × List Cell) → List (Option (List Cell)) → Prop} {a : List Arg} {Q : List (Bool × List Cell) → List (Option (List Cell)) → Prop} (h : ∃ b vals outs, a = b ∧ D P X (.call 31 b vals outs) ∧ Q vals outs) : CallS P X 31 a Q := ⟨h⟩
end

section
open Go Go.RowKit Go.IntWalk

open Enc (sz cs)

attribute [local irreducible] IntKind.wrap

/-! ### Operations, one behind the other -/

attribute [local irreducible] pkR ppN bOf fbN cdN rpN atN tkN moS moI clN2 lkK apN

noncomputable def baN (s : List Df) (m : Tbs) (l : List Opn) : Tbs × Int × Int :=
  if 10 < l.length then (m, 1, 0) else
    if baC s m l = -1 then (baM s m l l.length, 0, l.length)
    else (m, (apN s (baM s m l (baC s m l).toNat) (l.getD (baC s m l).toNat ⟨0, 0, []⟩)).2, baC s m l)

theorem baN_b {s : List Df} {m : Tbs} {l : List Opn} (h : 10 < l.length) : baN s m l = (m, 1, 0) := if_pos h

theorem baN_y {s : List Df} {m : Tbs} {l : List Opn} (h : ¬ 10 < l.length) (hall : ∀ j (h : j < l.length), j < l.length → (apN s (baM s m l j) l[j]).2 = 0) : baN s m l = (baM s m l l.length, 0, ((l.length : Nat) : Int)) := by
  have e : baC s m l = -1 := fstI_no fun j hj q => by
    obtain ⟨hq, q⟩ := q
    exact q (hall j hq hj)
  unfold baN
  rw [if_neg h, if_pos e]

theorem baN_e {s : List Df} {m : Tbs} {l : List Opn} {i : Nat} (h : ¬ 10 < l.length) (hi : i < l.length) (hall : ∀ j (h : j < l.length), j < i → (apN s (baM s m l j) l[j]).2 = 0) (hc : ¬ (apN s (baM s m l i) l[i]).2 = 0) : baN s m l = (m, (apN s (baM s m l i) l[i]).2, ((i : Nat) : Int)) := by
  have e : baC s m l = i := fstI_at hi ⟨hi, hc⟩ fun j hj q => by
    obtain ⟨hq, q⟩ := q
    exact q (hall j hq hj)
  unfold baN
  rw [if_neg h, if_neg (by rw [e]; omega), e, Int.toNat_natCast, List.getD_eq_getElem?_getD, List.getElem?_eq_getElem hi]
  rfl

abbrev cbR (l : List Opn) : Nat := cnt (fun o => zRow o.row) l

theorem ba_z {s : List Df} {m : Tbs} {l : List Opn} {i : Nat} (h : i < l.length) : zMdb (baM s m l i) + zRow l[i].row ≤ zMdb m + cbR l + l.length := by
  have h1 := baM_z (s := s) (m := m) (l := l) (i := i) (by omega)
  have h2 := cnt_take (c := fun o : Opn => zRow o.row) (xs := l) (i := i) h
  have h3 := cnt_le (c := fun o : Opn => zRow o.row) (xs := l) (i := i + 1)
  have e : cbR l = cnt (fun o : Opn => zRow o.row) l := rfl
  omega

set_option maxHeartbeats 2000000 in
set_option maxRecDepth 100000 in
theorem tx32 {s : List Df} {m : Tbs} {l : List Opn} (hs : zSc s ≤ 2000000 := by first | assumption | omega | (simp; done) | (simp; omega)) (hm : zMdb m + cbR l + l.length ≤ 1900000 := by first | assumption | omega | (simp; done) | (simp; omega)) : T 32 [aE s, .val true [slE false m], aE l] [(true, [slE true (baN s m l).1]), vI (baN s m l).2.1, vI (baN s m l).2.2] [none, none, none] := by
  refine w_call md [[1], [], []] Tryz.func32 rfl ?_
  have hm2 : zMdb m ≤ 2000000 := by omega
  by_cases h10 : 10 < l.length
  · rw [baN_b h10]
    repeat' ((conv => whnf); (first | (apply cx46; refine kl (tx46 (m := m)) ?_) | refine k0 ?_ | refine jA fun _ => ?_ | refine jB fun _ => ?_ | refine kC (fun _ => ?_) fun _ => ?_ | (apply cx46; refine kl tx46 ?_) | (apply cx13; refine kl tx13 ?_) | refine jst ?_ | exact ⟨rfl, rfl⟩ | exact jV | fail))
  · repeat' ((conv => whnf); (first | (apply cx46; refine kl (tx46 (m := m)) ?_) | refine k0 ?_ | refine jA fun _ => ?_ | refine jB fun _ => ?_ | refine kC (fun _ => ?_) fun _ => ?_ | (apply cx46; refine kl tx46 ?_) | (apply cx13; refine kl tx13 ?_) | refine jst ?_ | exact ⟨rfl, rfl⟩ | exact jV | fail))
    conv => whnf
    refine loopk (ι := Nat × Tbs) (fun i => (i.1 ≤ l.length ∧ baM s m l i.1 = i.2) ∧ ∀ j (h : j < l.length), j < i.1 → (apN s (baM s m l j) l[j]).2 = 0) (fun i => l.length - i.1) (0, m) [0, 2, 4, 6, 9, 21, 22] (fun i => [(23, .v false [i6 i.1])]) [none, none, none, none, none, some fun i => nE i.2, some fun i => some (true, [.ref 5 0 i.2.length 1])] ?_
    refine ⟨⟨⟨Nat.zero_le _, rfl⟩, by intros; omega⟩, ?_, fun z hz => ?_⟩
    · exact jw [6]
    · obtain ⟨i, M⟩ := z
      obtain ⟨⟨hi, hx⟩, hp⟩ := hz
      simp only at hi hx hp
      repeat' ((conv => whnf); (first | refine k0 ?_ | (apply cx46; refine kl tx46 ?_) | (apply cx13; refine kl tx13 ?_) | refine jst ?_ | exact ⟨rfl, rfl⟩ | exact jV | fail))
      conv => whnf
      refine ⟨fun hlt => ?_, fun hge => ?_⟩
      · have hi2 : i < l.length := by omega
        have hzz := ba_z (s := s) (m := m) hi2
        rw [hx] at hzz
        obtain ⟨M2, c, hr⟩ : ∃ M2 c, apN s M l[i] = (M2, c) := ⟨_, _, rfl⟩
        have hA : T 13 [aE s, .val true [slE false M], .val true [i6 l[i].kind, i6 l[i].t, slE false l[i].row]] [(true, [slE true M2]), vI c] [none, none, none] := by
          have h : T 13 [aE s, .val true [slE false M], .val true [i6 l[i].kind, i6 l[i].t, slE false l[i].row]] [(true, [slE true (apN s M l[i]).1]), vI (apN s M l[i]).2] [none, none, none] := tx13 (s := s) (m := M) (kd := l[i].kind) (t := l[i].t) (row := l[i].row)
          rwa [hr] at h
        by_cases hc : c = 0
        · subst hc
          repeat' ((conv => whnf); (first | (apply cx13; refine kl (hA) ?_) | refine And.intro ⟨by omega, by omega⟩ (Exists.intro _ (And.intro (rdI (i := i) (by omega) (by omega)) ?_)) | refine k0 ?_ | refine jA fun _ => ?_ | refine jB fun _ => ?_ | refine kC (fun _ => ?_) fun _ => ?_ | (apply cx46; refine kl tx46 ?_) | (apply cx13; refine kl tx13 ?_) | refine jst ?_ | exact ⟨rfl, rfl⟩ | exact jV | fail))
          refine ⟨⟨(i + 1, M2), ⟨⟨by simp only; omega, (baM_suc hi2).trans (by rw [hx, hr])⟩, all_suc hp hi2 (by rw [hx, hr])⟩⟩, by simp only; omega, ?_⟩
          exact jw [6]
        · have hn : baN s m l = (m, c, ((i : Nat) : Int)) := by rw [baN_e h10 hi2 hp (by rw [hx, hr]; exact hc), hx, hr]
          repeat' ((conv => whnf); (first | (apply cx13; refine kl (hA) ?_) | (apply cx46; refine kl (tx46 (m := m)) ?_) | refine And.intro ⟨by omega, by omega⟩ (Exists.intro _ (And.intro (rdI (i := i) (by omega) (by omega)) ?_)) | refine k0 ?_ | refine jA fun _ => ?_ | refine jB fun _ => ?_ | refine kC (fun _ => ?_) fun _ => ?_ | (apply cx46; refine kl tx46 ?_) | (apply cx13; refine kl tx13 ?_) | refine jst ?_ | exact ⟨rfl, rfl⟩ | exact jV | fail))
          exact ⟨by rw [hn]; rfl, rfl⟩
      · obtain rfl : i = l.length := by omega
        have hn : baN s m l = (M, 0, ((l.length : Nat) : Int)) := by rw [baN_y h10 hp, hx]
        repeat' ((conv => whnf); (first | refine k0 ?_ | refine jA fun _ => ?_ | refine jB fun _ => ?_ | refine kC (fun _ => ?_) fun _ => ?_ | (apply cx46; refine kl tx46 ?_) | (apply cx13; refine kl tx13 ?_) | refine jst ?_ | exact ⟨rfl, rfl⟩ | exact jV | fail))
        exact ⟨by rw [hn]; rfl, rfl⟩

theorem cx32 {P : Program} {X : FuncId → List Arg → List (Bool × List Cell) → List (Option (List Cell)) → Prop} {a : List Arg} {Q : List (Bool × List Cell) → List (Option (List Cell)) → Prop} (h : ∃ b vals outs, a = b ∧ D P X (.call 32 b vals outs) ∧ Q vals outs) : CallS P X 32 a Q := ⟨h⟩

set_option maxHeartbeats 2000000 in
set_option maxRecDepth 100000 in
theorem tx33 {s : List Df} {m : Tbs} {l : List Opn} (hs : zSc s ≤ 2000000 := by first | assumption | omega | (simp; done) | (simp; omega)) (hm : zMdb m + cbR l + l.length ≤ 1900000 := by first | assumption | omega | (simp; done) | (simp; omega)) : T 33 [aE s, .val true [slE false m], aE l] [(true, [slE false (baN s m l).1]), vI (baN s m l).2.1, vI (baN s m l).2.2] [none, none, none] := by
  refine w_call md [[1], [], []] Tryz.func33 rfl ?_
  have hm2 : zMdb m ≤ 2000000 := by omega
  by_cases h10 : 10 < l.length
  · rw [baN_b h10]
    repeat' ((conv => whnf); (first | (apply cx51; refine kl (tx51 (m := m)) ?_) | refine bstep (w_frz 5 (m)) ?_ | refine ⟨snc, cs false m, cs_whole, ?_⟩ | refine k0 ?_ | refine jA fun _ => ?_ | refine jB fun _ => ?_ | refine kC (fun _ => ?_) fun _ => ?_ | (apply cx51; refine kl tx51 ?_) | (apply cx15; refine kl tx15 ?_) | refine jst ?_ | exact ⟨rfl, rfl⟩ | exact jV | fail))
  · repeat' ((conv => whnf); (first | (apply cx51; refine kl (tx51 (m := m)) ?_) | refine bstep (w_inF true 6 5 [] m [] m.length 1 rfl) ?_ | refine k0 ?_ | refine jA fun _ => ?_ | refine jB fun _ => ?_ | refine kC (fun _ => ?_) fun _ => ?_ | (apply cx51; refine kl tx51 ?_) | (apply cx15; refine kl tx15 ?_) | refine jst ?_ | exact ⟨rfl, rfl⟩ | exact jV | fail))
    conv => whnf
    refine loopk (ι := Nat × Tbs) (fun i => (i.1 ≤ l.length ∧ baM s m l i.1 = i.2) ∧ ∀ j (h : j < l.length), j < i.1 → (apN s (baM s m l j) l[j]).2 = 0) (fun i => l.length - i.1) (0, m) [0, 2, 4, 6, 9] (fun i => [(10, .v false [i6 i.1])]) [none, none, none, none, none, none, some fun i => some (true, [slE false i.2])] ?_
    refine ⟨⟨⟨Nat.zero_le _, rfl⟩, by intros; omega⟩, ?_, fun z hz => ?_⟩
    · exact jw []
    · obtain ⟨i, M⟩ := z
      obtain ⟨⟨hi, hx⟩, hp⟩ := hz
      simp only at hi hx hp
      repeat' ((conv => whnf); (first | refine k0 ?_ | (apply cx51; refine kl tx51 ?_) | (apply cx15; refine kl tx15 ?_) | refine jst ?_ | exact ⟨rfl, rfl⟩ | exact jV | fail))
      conv => whnf
      refine ⟨fun hlt => ?_, fun hge => ?_⟩
      · have hi2 : i < l.length := by omega
        have hzz := ba_z (s := s) (m := m) hi2
        rw [hx] at hzz
        obtain ⟨M2, c, hr⟩ : ∃ M2 c, apN s M l[i] = (M2, c) := ⟨_, _, rfl⟩
        have hA : T 15 [aE s, .val true [slE false M], .val true [i6 l[i].kind, i6 l[i].t, slE false l[i].row]] [(true, [slE false M2]), vI c] [none, none, none] := by
          have h : T 15 [aE s, .val true [slE false M], .val true [i6 l[i].kind, i6 l[i].t, slE false l[i].row]] [(true, [slE false (apN s M l[i]).1]), vI (apN s M l[i]).2] [none, none, none] := tx15 (s := s) (m := M) (kd := l[i].kind) (t := l[i].t) (row := l[i].row)
          rwa [hr] at h
        by_cases hc : c = 0
        · subst hc
          repeat' ((conv => whnf); (first | (apply cx15; refine kl (hA) ?_) | refine And.intro ⟨by omega, by omega⟩ (Exists.intro _ (And.intro (rdI (i := i) (by omega) (by omega)) ?_)) | refine k0 ?_ | refine jA fun _ => ?_ | refine jB fun _ => ?_ | refine kC (fun _ => ?_) fun _ => ?_ | (apply cx51; refine kl tx51 ?_) | (apply cx15; refine kl tx15 ?_) | refine jst ?_ | exact ⟨rfl, rfl⟩ | exact jV | fail))
          refine ⟨⟨(i + 1, M2), ⟨⟨by simp only; omega, (baM_suc hi2).trans (by rw [hx, hr])⟩, all_suc hp hi2 (by rw [hx, hr])⟩⟩, by simp only; omega, ?_⟩
          exact jw []
        · have hn : baN s m l = (m, c, ((i : Nat) : Int)) := by rw [baN_e h10 hi2 hp (by rw [hx, hr]; exact hc), hx, hr]
          repeat' ((conv => whnf); (first | (apply cx15; refine kl (hA) ?_) | (apply cx51; refine kl (tx51 (m := m)) ?_) | refine And.intro ⟨by omega, by omega⟩ (Exists.intro _ (And.intro (rdI (i := i) (by omega) (by omega)) ?_)) | refine bstep (w_frz 168 (m)) ?_ | refine ⟨snc, cs false m, cs_whole, ?_⟩ | refine k0 ?_ | refine jA fun _ => ?_ | refine jB fun _ => ?_ | refine kC (fun _ => ?_) fun _ => ?_ | (apply cx51; refine kl tx51 ?_) | (apply cx15; refine kl tx15 ?_) | refine jst ?_ | exact ⟨rfl, rfl⟩ | exact jV | fail))
          exact ⟨by rw [hn]; rfl, rfl⟩
      · obtain rfl : i = l.length := by omega
        have hn : baN s m l = (M, 0, ((l.length : Nat) : Int)) := by rw [baN_y h10 hp, hx]
        repeat' ((conv => whnf); (first | refine k0 ?_ | refine jA fun _ => ?_ | refine jB fun _ => ?_ | refine kC (fun _ => ?_) fun _ => ?_ | (apply cx51; refine kl tx51 ?_) | (apply cx15; refine kl tx15 ?_) | refine jst ?_ | exact ⟨rfl, rfl⟩ | exact jV | fail))
        exact ⟨by rw [hn]; rfl, rfl⟩

theorem cx33 {P : Program} {X : FuncId → List Arg → List (Bool × List Cell) → List (Option (List Cell)) → Prop} {a : List Arg} {Q : List (Bool × List Cell) → List (Option (List Cell)) → Prop} (h : ∃ b vals outs, a = b ∧ D P X (.call 33 b vals outs) ∧ Q vals outs) : CallS P X 33 a Q := ⟨h⟩
end

section
open Go Go.RowKit Go.IntWalk

open Enc (sz cs)

attribute [local irreducible] IntKind.wrap

theorem osR_z {s : List Df} (hs : ScB s) : ∀ {i : Nat} {l : List Opn} {c : Cur}, (∀ o ∈ l, zRow o.row ≤ 256) → ∀ o ∈ (osR s i l c).1, zRow o.row ≤ 256
  | 0, _, _, h => h
  | i + 1, l, c, h => by
    rw [show osR s (i + 1) l c = osR s i (l ++ [(opC1 s c).1]) (opC1 s c).2 from rfl]
    refine osR_z hs fun o ho => ?_
    rcases List.mem_append.1 ho with p | p
    · exact h o p
    · rw [List.mem_singleton.1 p]; exact opC1_z hs

theorem dbA_z {s : List Df} {l : List Opn} {c : Cur} (hs : ScB s) (h : ∀ o ∈ l, zRow o.row ≤ 256) : ∀ o ∈ (dbA s l c).1, zRow o.row ≤ 256 := by
  intro o ho
  unfold dbA at ho
  split at ho
  · rcases List.mem_append.1 ho with p | p
    · exact h o p
    · rw [List.mem_singleton.1 p]; exact (oaC_b hs).z
  · exact h o ho

theorem dbA_l {s : List Df} {l : List Opn} {c : Cur} : (dbA s l c).1.length ≤ l.length + 1 := by
  unfold dbA
  split
  · simp
  · simp

theorem dpR_z : ∀ {f : Nat} {l : List Opn} {c : Cur}, (∀ o ∈ l, zRow o.row ≤ 256) → ∀ o ∈ (dpR f l c).1, zRow o.row ≤ 256
  | 0, _, _, h => h
  | f + 1, l, c, h => by
    rw [dpR]
    split
    · refine dpR_z fun o ho => ?_
      rcases List.mem_append.1 ho with p | p
      · exact h o p
      · rw [List.mem_singleton.1 p, List.getD_eq_getElem?_getD]
        by_cases h0 : 0 < l.length
        · rw [List.getElem?_eq_getElem h0]; exact h _ (List.getElem_mem h0)
        · rw [List.getElem?_eq_none (by omega)]; exact Nat.zero_le _
    · exact h

theorem dpR_l : ∀ {f : Nat} {l : List Opn} {c : Cur}, l.length ≤ 11 → (dpR f l c).1.length ≤ 11
  | 0, _, _, h => h
  | f + 1, l, c, h => by
    have hb := blC_lt (c := c) (n := 2) (by decide)
    rw [dpR]
    split
    · exact dpR_l (by rw [List.length_append, List.length_singleton]; omega)
    · exact h

theorem dbB_b {l : List Opn} {c : Cur} (hl : l.length ≤ 11) (h : ∀ o ∈ l, zRow o.row ≤ 256) : (dbB l c).1.length ≤ 11 ∧ ∀ o ∈ (dbB l c).1, zRow o.row ≤ 256 := by
  unfold dbB
  split
  · exact ⟨dpR_l hl, dpR_z h⟩
  · exact ⟨hl, h⟩

theorem dbL_b {b : List UInt8} : (dbL b).1.length ≤ 11 ∧ ∀ o ∈ (dbL b).1, zRow o.row ≤ 256 := by
  have hs := dsC_b (c := nwC b)
  have h0 : ∀ o ∈ (osC (dbM b).2 (dbS b).1 4).1, zRow o.row ≤ 256 := osR_z hs (fun o ho => absurd ho (List.not_mem_nil))
  have hl := osC_len (s := (dbS b).1) (c := (dbM b).2) (most := 4) (by decide)
  have h1 := dbA_z (c := (osC (dbM b).2 (dbS b).1 4).2) hs h0
  have hl1 := dbA_l (s := (dbS b).1) (l := (osC (dbM b).2 (dbS b).1 4).1) (c := (osC (dbM b).2 (dbS b).1 4).2)
  exact dbB_b (Nat.le_trans hl1 (Nat.le_trans (Nat.succ_le_succ hl.2) (by decide))) h1

theorem db_all {b : List UInt8} : zSc (dbS b).1 ≤ 404 ∧ zMdb (dbM b).1 ≤ 30257 ∧ (dbL b).1.length ≤ 11 ∧ ∀ o ∈ (dbL b).1, zRow o.row ≤ 256 := by
  have hsb := dsC_b (c := nwC b)
  have hsz := szC_b (b := b) (most := 10) (by decide)
  exact ⟨hsb.z, taC_z hsb (by omega) (by omega), dbL_b.1, dbL_b.2⟩

theorem baN_z2 {s : List Df} {m : Tbs} {l : List Opn} : zMdb (baN s m l).1 ≤ zMdb m + cbR l + l.length := by
  unfold baN
  split
  · simp only; omega
  · split
    · have h := baM_z (s := s) (m := m) (l := l) (i := l.length) (Nat.le_refl _)
      have e : cbR l = cnt (fun o : Opn => zRow o.row) l := rfl
      rw [List.take_length] at h
      simp only; omega
    · simp only; omega

attribute [local irreducible] fbN cdN moS moI apN ldC laC dsC tdC taC opC1 oaC nwC ppN pkR mdN rwC baN dbL

set_option maxHeartbeats 2000000 in
set_option maxRecDepth 100000 in
theorem tx7 {b : List UInt8} (hb : b.length ≤ 140737488355327 := by first | assumption | omega | (simp; done) | (simp; omega)) : T 7 [aE b] [vB true] [none] := by
  refine w_call md [] Tryz.func7 rfl ?_
  by_cases hz : 1048576 < b.length
  · have hB : T 8 [aE b] [vB true] [none] := by
      have h := tx8 (b := b)
      rwa [decide_eq_true (by omega)] at h
    repeat' ((conv => whnf); (first | (apply cx8; refine kl (hB) ?_) | refine k0 ?_ | refine jA fun _ => ?_ | refine jB fun _ => ?_ | refine kC (fun _ => ?_) fun _ => ?_ | (apply cx31; refine kl tx31 ?_) | (apply cx32; refine kl tx32 ?_) | (apply cx33; refine kl tx33 ?_) | (apply cx16; refine kl tx16 ?_) | (apply cx13; refine kl tx13 ?_) | refine jst ?_ | exact ⟨rfl, rfl⟩ | exact jV | fail))
  · have hB : T 8 [aE b] [vB false] [none] := by
      have h := tx8 (b := b)
      rwa [decide_eq_false (by omega)] at h
    have hD := tx31 (b := b) (by omega)
    have hP := db_all (b := b)
    generalize (dbS b).1 = s at hD hP
    generalize (dbM b).1 = m at hD hP
    generalize (dbL b).1 = l at hD hP
    obtain ⟨hs, hm, hl, hlz⟩ := hP
    have hcl : cbR l ≤ 256 * l.length := cnt_le_mul hlz
    have hgz := baN_z2 (s := s) (m := m) (l := l)
    obtain ⟨g, c, k, hr⟩ : ∃ g c k, baN s m l = (g, c, k) := ⟨_, _, _, rfl⟩
    have hSp : T 33 [aE s, .val true [slE false m], aE l] [(true, [slE false g]), vI c, vI k] [none, none, none] := by
      have h := tx33 (s := s) (m := m) (l := l)
      rwa [hr] at h
    have hIm : T 32 [aE s, .val true [slE false m], aE l] [(true, [slE true g]), vI c, vI k] [none, none, none] := by
      have h := tx32 (s := s) (m := m) (l := l)
      rwa [hr] at h
    rw [hr] at hgz
    simp only at hgz
    obtain ⟨hm1, hm2⟩ := OkMdb.of (m := m) (by omega)
    obtain ⟨hg1, hg2⟩ := OkMdb.of (m := g) (by omega)
    by_cases h10 : 10 < l.length
    · rw [baN_b h10] at hr
      obtain ⟨e1, q⟩ := Prod.mk.inj hr
      obtain ⟨e2, e3⟩ := Prod.mk.inj q
      clear hr q
      subst e1 e2 e3
      repeat' ((conv => whnf); (first | (apply cx8; refine kl (hB) ?_) | (apply cx31; refine kl (hD) ?_) | (apply cx32; refine kl (hIm) ?_) | (apply cx33; refine kl (hSp) ?_) | (apply cx16; refine kl (tx16 (m := m)) ?_) | refine k0 ?_ | refine jA fun _ => ?_ | refine jB fun _ => ?_ | refine kC (fun _ => ?_) fun _ => ?_ | (apply cx13; refine kl tx13 ?_) | refine jst ?_ | exact ⟨rfl, rfl⟩ | exact jV | fail))
    · repeat' ((conv => whnf); (first | (apply cx8; refine kl (hB) ?_) | (apply cx31; refine kl (hD) ?_) | (apply cx32; refine kl (hIm) ?_) | (apply cx33; refine kl (hSp) ?_) | refine k0 ?_ | refine jA fun _ => ?_ | refine jB fun _ => ?_ | refine kC (fun _ => ?_) fun _ => ?_ | (apply cx16; refine kl tx16 ?_) | (apply cx13; refine kl tx13 ?_) | refine jst ?_ | exact ⟨rfl, rfl⟩ | exact jV | fail))
      conv => whnf
      refine loopk (ι := Nat × Tbs) (fun i => (i.1 ≤ l.length ∧ baM s m l i.1 = i.2) ∧ ∀ j (h : j < l.length), j < i.1 → (apN s (baM s m l j) l[j]).2 = 0) (fun i => l.length - i.1) (0, m) [3, 4, 5, 6, 7, 8, 12] (fun i => [(13, .v false [i6 i.1])]) [none, none, none, none, none, some fun i => some (true, [slE false i.2])] ?_
      refine ⟨⟨⟨Nat.zero_le _, rfl⟩, by intros; omega⟩, ?_, fun z hz => ?_⟩
      · exact jw [3]
      · obtain ⟨i, M⟩ := z
        obtain ⟨⟨hi, hx⟩, hp⟩ := hz
        simp only at hi hx hp
        by_cases hlt : i < l.length
        · have hzz := ba_z (s := s) (m := m) hlt
          rw [hx] at hzz
          obtain ⟨M2, c2, hr2⟩ : ∃ M2 c2, apN s M l[i] = (M2, c2) := ⟨_, _, rfl⟩
          have hA : T 13 [aE s, .val true [slE false M], .val true [i6 l[i].kind, i6 l[i].t, slE false l[i].row]] [(true, [slE true M2]), vI c2] [none, none, none] := by
            have h : T 13 [aE s, .val true [slE false M], .val true [i6 l[i].kind, i6 l[i].t, slE false l[i].row]] [(true, [slE true (apN s M l[i]).1]), vI (apN s M l[i]).2] [none, none, none] := tx13 (s := s) (m := M) (kd := l[i].kind) (t := l[i].t) (row := l[i].row)
            rwa [hr2] at h
          by_cases hc : c2 = 0
          · subst hc
            repeat' ((conv => whnf); (first | (apply cx13; refine kl (hA) ?_) | refine And.intro ⟨by omega, by omega⟩ (Exists.intro _ (And.intro (rdI (i := i) (by omega) (by omega)) ?_)) | refine k0 ?_ | refine jA fun _ => ?_ | refine jB fun _ => ?_ | refine kC (fun _ => ?_) fun _ => ?_ | (apply cx8; refine kl tx8 ?_) | (apply cx31; refine kl tx31 ?_) | (apply cx32; refine kl tx32 ?_) | (apply cx33; refine kl tx33 ?_) | (apply cx16; refine kl tx16 ?_) | refine jst ?_ | exact ⟨rfl, rfl⟩ | exact jV | fail))
            refine ⟨⟨(i + 1, M2), ⟨⟨hlt, (baM_suc hlt).trans (by rw [hx, hr2])⟩, all_suc hp hlt (by rw [hx, hr2])⟩⟩, by simp only; omega, ((w_frz 102 M2).trans (w_lkF 5 102 [] M2 [] M2.length 1 rfl (h1 := rfl))).trans ?_⟩
            exact jw [3]
          · have hn : baN s m l = (m, c2, ((i : Nat) : Int)) := by rw [baN_e h10 hlt hp (by rw [hx, hr2]; exact hc), hx, hr2]
            rw [hr] at hn
            obtain ⟨e1, q⟩ := Prod.mk.inj hn
            obtain ⟨e2, e3⟩ := Prod.mk.inj q
            clear hn hr q
            subst e1 e2 e3
            repeat' ((conv => whnf); (first | (apply cx13; refine kl (hA) ?_) | refine And.intro ⟨by omega, by omega⟩ (Exists.intro _ (And.intro (rdI (i := i) (by omega) (by omega)) ?_)) | (apply cx16; refine kl (tx16 (m := g)) ?_) | refine k0 ?_ | refine jA fun _ => ?_ | refine jB fun _ => ?_ | refine kC (fun _ => ?_) fun _ => ?_ | (apply cx8; refine kl tx8 ?_) | (apply cx31; refine kl tx31 ?_) | (apply cx32; refine kl tx32 ?_) | (apply cx33; refine kl tx33 ?_) | refine jst ?_ | exact ⟨rfl, rfl⟩ | exact jV | fail))
            all_goals trace_state
            all_goals sorry
        · obtain rfl : i = l.length := by omega
          have hn : baN s m l = (M, 0, ((l.length : Nat) : Int)) := by rw [baN_y h10 hp, hx]
          rw [hr] at hn
          obtain ⟨e1, q⟩ := Prod.mk.inj hn
          obtain ⟨e2, e3⟩ := Prod.mk.inj q
          clear hn hr q
          subst e1 e2 e3
          repeat' ((conv => whnf); (first | (apply cx16; refine kl (tx16 (m := g)) ?_) | refine k0 ?_ | refine jA fun _ => ?_ | refine jB fun _ => ?_ | refine kC (fun _ => ?_) fun _ => ?_ | (apply cx8; refine kl tx8 ?_) | (apply cx31; refine kl tx31 ?_) | (apply cx32; refine kl tx32 ?_) | (apply cx33; refine kl tx33 ?_) | (apply cx13; refine kl tx13 ?_) | refine jst ?_ | exact ⟨rfl, rfl⟩ | exact jV | fail))
          all_goals trace_state
          all_goals sorry
end

section
open Go Go.RowKit Go.IntWalk

open Enc (sz cs)

attribute [local irreducible] IntKind.wrap

set_option maxHeartbeats 2000000 in
set_option maxRecDepth 100000 in
theorem tx6 {b : List UInt8} (hb : b.length ≤ 140737488355327 := by first | assumption | omega | (simp; done) | (simp; omega)) : T 6 [aE b] [vB true] [none] := by
  refine w_call md [] Tryz.func6 rfl ?_
  by_cases hz : 1048576 < b.length
  · have hB : T 8 [aE b] [vB true] [none] := by
      have h := tx8 (b := b)
      rwa [decide_eq_true (by omega)] at h
    repeat' ((conv => whnf); (first | (apply cx8; refine kl (hB) ?_) | refine k0 ?_ | refine jA fun _ => ?_ | refine jB fun _ => ?_ | refine kC (fun _ => ?_) fun _ => ?_ | (apply cx30; refine kl tx30 ?_) | (apply cx13; refine kl tx13 ?_) | (apply cx15; refine kl tx15 ?_) | (apply cx16; refine kl tx16 ?_) | refine jst ?_ | exact ⟨rfl, rfl⟩ | exact jV | fail))
  · have hB : T 8 [aE b] [vB false] [none] := by
      have h := tx8 (b := b)
      rwa [decide_eq_false (by omega)] at h
    have hD := tx30 (b := b) (by omega)
    have hs := (dsC_b (c := nwC b)).z
    have hsz := szC_b (b := b) (most := 14) (by decide)
    have hm := taC_z (c := (doS b).2) (s := (doS b).1) (most := szC b 14) dsC_b hsz.1 (by omega)
    have ho := (oaC_b (c := (doM b).2) (s := (doS b).1) dsC_b).z
    obtain ⟨s, hse⟩ : ∃ s, (doS b).1 = s := ⟨_, rfl⟩
    obtain ⟨m, hme⟩ : ∃ m, (doM b).1 = m := ⟨_, rfl⟩
    obtain ⟨o, hoe⟩ : ∃ o, (doO b).1 = o := ⟨_, rfl⟩
    have hm : zMdb m ≤ 30257 := by rw [← hme]; exact hm
    have ho : zRow o.row ≤ 256 := by rw [← hoe]; exact ho
    have hs : zSc s ≤ 404 := by rw [← hse]; exact hs
    rw [hse, hme, hoe] at hD
    clear hse hme hoe
    obtain ⟨kd, t, row⟩ := o
    have ho : zRow row ≤ 256 := ho
    have hgz := apN_z (s := s) (m := m) (o := ⟨kd, t, row⟩)
    have her := apN_err (s := s) (m := m) (o := ⟨kd, t, row⟩)
    obtain ⟨g, c, hr⟩ : ∃ g c, apN s m ⟨kd, t, row⟩ = (g, c) := ⟨_, _, rfl⟩
    have hSp : T 15 [aE s, .val true [slE false m], .val true [i6 kd, i6 t, slE false row]] [(true, [slE false g]), vI c] [none, none, none] := by
      have h := tx15 (s := s) (m := m) (kd := kd) (t := t) (row := row)
      rwa [hr] at h
    have hIm : T 13 [aE s, .val true [slE false m], .val true [i6 kd, i6 t, slE false row]] [(true, [slE true g]), vI c] [none, none, none] := by
      have h := tx13 (s := s) (m := m) (kd := kd) (t := t) (row := row)
      rwa [hr] at h
    rw [hr] at hgz her
    simp only at hgz her
    obtain ⟨hm1, hm2⟩ := OkMdb.of (m := m) (by omega)
    obtain ⟨hg1, hg2⟩ := OkMdb.of (m := g) (by omega)
    by_cases hc : c = 0
    · subst hc
      repeat' ((conv => whnf); (first | (apply cx8; refine kl (hB) ?_) | (apply cx30; refine kl (hD) ?_) | (apply cx15; refine kl (hSp) ?_) | (apply cx13; refine kl (hIm) ?_) | (apply cx16; refine kl (tx16 (m := g)) ?_) | refine k0 ?_ | refine jA fun _ => ?_ | refine jB fun _ => ?_ | refine kC (fun _ => ?_) fun _ => ?_ | refine jst ?_ | exact ⟨rfl, rfl⟩ | exact jV | fail))
    · have hgm := her hc
      subst hgm
      repeat' ((conv => whnf); (first | (apply cx8; refine kl (hB) ?_) | (apply cx30; refine kl (hD) ?_) | (apply cx15; refine kl (hSp) ?_) | (apply cx13; refine kl (hIm) ?_) | (apply cx16; refine kl (tx16 (m := g)) ?_) | refine k0 ?_ | refine jA fun _ => ?_ | refine jB fun _ => ?_ | refine kC (fun _ => ?_) fun _ => ?_ | refine jst ?_ | exact ⟨rfl, rfl⟩ | exact jV | fail))
end

end Go.Proofs.YtddikflnjloagaaGreatDoor
