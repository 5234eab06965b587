/- Functions of the program, each with what it gives back. -/
import Derived.Test.YtkggnekdjdnhiaaGreatKe
import Derived.Test.YtkggnekdjdnhiaaGreatChecked
import Derived.IntWalk
import Derived.Test.YtkggnekdjdnhiaaGreatFy
import Derived.Test.YtkggnekdjdnhiaaGreatGa
namespace Go.Proofs.YtkggnekdjdnhiaaGreat
open Go Go.RowKit Go.IntWalk
open Enc (sz cs)
attribute [local irreducible] IntKind.wrap

attribute [local irreducible] gU gT
theorem w_nlO {n : Nat} {t h nx tn} (i s' : Nat) (A C : List Cell) {cs0 cs1 : List Cell} (hi : look none h i = some (true, cs0) := by rfl) (h1 : cs0 = A ++ [.nil] ++ C := by first | rfl | simp) (h2 : A ++ [.sl true 0 s' []] ++ C = cs1 := by rfl) :
    WGh n ⟨t, h, nx, tn⟩ ⟨t, (i, some (true, cs1)) :: h, nx, tn⟩ := by
  subst h1 h2
  exact w_node i hi (CWs.app (CWs.app (CWs.refl _) (.cons .nilO .nil)) (CWs.refl _))
/-- A step ahead of a function's first operation. -/
theorem w_callG {P : Program} {X : FuncId → List Arg → List (Bool × List Cell) → List (Option (List Cell)) → Prop} (md : FuncId → List Mode) {f : FuncId} {fn : Func} {c : Code} {ag : List Arg} {vals : List (Bool × List Cell)} {outs : List (Option (List Cell))} (zs : List (List Nat))
    (hf : P.funcs[f]? = some fn) (hb : fn.body = some c)
    (h : ∃ τ1, WGh ag.length (initW ag fn.ntmps) τ1 ∧ wCode P X md ag.length c τ1 fun o τ => match o with
      | .exit _ => False
      | _ => ∃ τ1, WGh ag.length τ τ1 ∧ finW P fn zs τ1 ag fun v o => v = vals ∧ o = outs) (hx : (noEx ag || Nat.ble ag.length fn.ntmps) = true := by rfl) : D P X (.call f ag vals outs) := by
  obtain ⟨τ1, g0, h⟩ := h
  obtain ⟨σ0, s0, g0⟩ := g0.go _ (init_sim ag fn.ntmps)
  obtain ⟨out, σ', τ', h1, h2, h3⟩ := wCode_ok s0 h
  have go : (∃ τ1, WGh ag.length τ' τ1 ∧ finW P fn zs τ1 ag fun v o => v = vals ∧ o = outs) → (out = .norm ∨ out = .ret) → D P X (.call f ag vals outs) := by
    rintro ⟨τ1, hg, h4⟩ ho
    obtain ⟨σ1, s1, g⟩ := hg.go _ h2
    obtain ⟨v, o, h5, rfl, rfl⟩ := finW_ok s1 h4
    exact .call zs hf hb hx (.ghostE (.ghost g0 h1) g) ho h5
  cases out with
  | norm => exact go h3 (.inl rfl)
  | ret => exact go h3 (.inr rfl)
  | exit m => exact h3.elim

set_option maxRecDepth 100000 in
theorem tx115 {o : Bool} {d : Dsk} (hd : zD d ≤ 2000000 := by first | assumption | omega | (simp; done) | (simp; omega)) (hn : ∀ w ∈ d.cache, 0 ≤ w.n ∧ w.n < d.secs.length := by first | assumption | omega | (simp; done) | (simp; omega)) : T 115 [.own true 0 0 [slE true d.secs, .sl true d.cache.length 2 (cs o d.cache), i6 d.ops, slE true d.faults, b1 d.down]] [] [some (dskC true { d with secs := stl d.secs d.cache, cache := [] })] := by
  refine w_callG md [] Tryz.func115 rfl ?_
  have hz : zD d = d.secs.length + cnt List.length d.secs + (d.cache.length + cnt (fun w : Wri => w.b.length) d.cache) + d.faults.length := rfl
  conv => whnf
  refine bstep (w_out 0 [slE true d.secs] [i6 d.ops, slE true d.faults, b1 d.down] (c := d.cache.length) (s' := 2) (cs := cs o d.cache) rfl rfl rfl) ?_
  refine bstep (w_freeze 1 (cs' := cs false d.cache) rfl (cs_ro _)) ?_
  refine bstep (w_outE 0 [] d.secs [.ref 1 0 d.cache.length 2, i6 d.ops, slE true d.faults, b1 d.down] 1) ?_
  refine bstep (w_outE 0 [.ref 2 0 d.secs.length 1, .ref 1 0 d.cache.length 2, i6 d.ops] d.faults [b1 d.down] 3) ?_
  repeat' ((conv => whnf); (first | refine k0 ?_ | refine jA fun _ => ?_ | refine jB fun _ => ?_ | refine kC (fun _ => ?_) fun _ => ?_ | (apply cx108; refine kl tx108 ?_) | refine jst ?_ | exact ⟨rfl, rfl⟩ | exact jV | fail))
  conv => whnf
  refine loopk (ι := Nat) (fun i => i ≤ d.cache.length) (fun i => d.cache.length - i) (0) [0, 7, 8] (fun i => [(9, .v false [i6 i])]) [none, none, some fun i => nE (stl d.secs (d.cache.take i)), none] ?_
  refine ⟨by omega, ?_, fun i hi => ?_⟩
  · exact jw [0]
  · refine ⟨fun hlt => ?_, fun hge => ?_⟩
    · have hi2 : i < d.cache.length := by omega
      have hn' := hn _ (List.getElem_mem hi2)
      have hc' := cnt_ge (c := fun w : Wri => w.b.length) hi2
      repeat' ((conv => whnf); (first | refine ko (ptSec (i := (d.cache[i].n).toNat) (by rw [stl_len]; omega)) ?_ | refine k0 ?_ | refine jA fun _ => ?_ | refine jB fun _ => ?_ | refine kC (fun _ => ?_) fun _ => ?_ | (apply cx108; refine kl tx108 ?_) | refine jst ?_ | exact ⟨rfl, rfl⟩ | exact jV | fail))
      refine ⟨⟨i + 1, by omega⟩, by simp only; omega, (w_inE 2 133 _ d.cache[i].b _ d.cache[i].b.length 1 (csSec (xs := stl d.secs (d.cache.take i)) (i := d.cache[i].n.toNat) (by rw [stl_len]; omega)) (hi := rfl) (h1 := rfl)).trans ?_⟩
      exact w_autoX [0] (by (conv => whnf); exact And.intro (by kernel_rfl) (And.intro (by kernel_rfl) (by repeat' (first | (with_reducible exact rfl) | ((conv => whnf); first | exact trivial | exact (by rw [stl_take hi2]; exact ⟨rfl, cs_clo _, rfl⟩) | exact rfl | exact tvi (by first | omega | (dsimp only; omega) | (simp; done)) | exact tvr (by first | omega | (dsimp only; omega) | (simp; done) | (simp; omega)) | exact ⟨rfl, clo_i, by first | rfl | rw [List.take_length] | assumption⟩ | refine And.intro ?_ ?_)))))
    · obtain rfl : i = d.cache.length := by omega
      repeat' ((conv => whnf); (first | ((with_reducible apply bfin); exact (w_inE 0 2 [] (stl d.secs (d.cache.take d.cache.length)) [.nil, i6 d.ops, .ref 3 0 d.faults.length 3, b1 d.down] d.secs.length 1 rfl (hk := stl_len)).trans ((w_inE 0 3 [slE true (stl d.secs (d.cache.take d.cache.length)), .nil, i6 d.ops] d.faults [b1 d.down] d.faults.length 3 rfl).trans (w_nlO 0 2 [slE true (stl d.secs (d.cache.take d.cache.length))] [i6 d.ops, slE true d.faults, b1 d.down]))) | refine k0 ?_ | refine jA fun _ => ?_ | refine jB fun _ => ?_ | refine kC (fun _ => ?_) fun _ => ?_ | (apply cx108; refine kl tx108 ?_) | refine jst ?_ | exact ⟨rfl, rfl⟩ | exact jV | fail))
      exact ⟨rfl, by rw [List.take_length]; rfl⟩

theorem cx115 {P : Program} {X : FuncId → List Arg → List (Bool × List Cell) → List (Option (List Cell)) → Prop} {a : List Arg} {Q : List (Bool × List Cell) → List (Option (List Cell)) → Prop} (h : ∃ b vals outs, a = b ∧ D P X (.call 115 b vals outs) ∧ Q vals outs) : CallS P X 115 a Q := ⟨h⟩

theorem kpI_cnt {c : Wri → Nat} {keep : Int} {l : List Wri} : ∀ {i : Nat}, i ≤ l.length → cnt c (kpI keep l i) ≤ cnt c (l.take i)
  | 0, _ => Nat.le_refl _
  | i + 1, h => by
    have ih := kpI_cnt (c := c) (keep := keep) (l := l) (i := i) (by omega)
    have e : cnt c (l.take (i + 1)) = cnt c (l.take i) + c l[i] := by rw [take_one h, cnt_app]; simp [cnt]
    by_cases hb : i < 20 ∧ bitK keep i = true
    · rw [kpI_yes (by omega) hb.1 hb.2, cnt_app, e]; simp [cnt]; omega
    · rw [kpI_no hb]; omega
theorem ptW {xs : List Wri} {i : Nat} {y : List UInt8} (h : i < xs.length) : put (cs false xs) (i * 2 + 1) [slE false y] = some (cs false (xs.set i ⟨xs[i].n, y⟩)) := by
  have e : xs.set i ⟨xs[i].n, y⟩ = xs.take i ++ [⟨xs[i].n, y⟩] ++ xs.drop (i + 1) := by
    rw [List.set_eq_take_append_cons_drop, if_pos h]; simp
  rw [e, Enc.app, Enc.app, cs_split h]
  have hl : i * 2 = (cs false (xs.take i)).length := (cs_take_len (o := false) (xs := xs) (Nat.le_of_lt h)).symm
  exact put_mid hl (r := cs false [(⟨xs[i].n, y⟩ : Wri)]) rfl
theorem ct0J {α : Type} [Enc α] {xs : List α} {o : Bool} {j : Int} {i s : Nat} (hj : j = (i : Nat)) (h : i < xs.length) (hs : sz α = s := by rfl) : cut (cs o xs) (j.toNat * s) s = some (cs o [xs[i]]) := by
  subst hj; exact ct0 h hs
theorem ptWJ {xs : List Wri} {j : Int} {i : Nat} {y : List UInt8} (hj : j = (i : Nat)) (h : i < xs.length) : put (cs false xs) (j.toNat * 2 + 1) [slE false y] = some (cs false (xs.set i ⟨xs[i].n, y⟩)) := by
  subst hj; exact ptW h
theorem trL_set {cut : Int} {l : List Wri} {m : Nat} (h : l.length = m + 1) : trL cut l = l.set m ⟨(l[m]'(by omega)).n, (l[m]'(by omega)).b.take cut.toNat⟩ := by
  have e : l = l.take m ++ [l[m]'(by omega)] := by
    rw [← take_one (by omega), List.take_of_length_le (by omega)]
  have e2 : trL cut l = trL cut (l.take m ++ [l[m]'(by omega)]) := congrArg _ e
  rw [e2, trL_app, List.set_eq_take_append_cons_drop, if_pos (by omega), List.drop_of_length_le (by omega)]
theorem bndMin {d : Nat} {a b : Nat} {k : IntKind} : boundT d (some (.v false [.prim (.int k (if (a : Int) < (b : Int) then (a : Int) else (b : Int)))])) = some (min b a) := by
  by_cases h : (a : Int) < (b : Int)
  · rw [if_pos h, bndN, Nat.min_eq_right (by omega)]
  · rw [if_neg h, bndN, Nat.min_eq_left (by omega)]
theorem take_mn {α : Type} {l : List α} {k : Nat} : l.take (min k l.length) = l.take k := by
  by_cases h : k ≤ l.length
  · rw [Nat.min_eq_left h]
  · rw [Nat.min_eq_right (by omega), List.take_length, List.take_of_length_le (by omega)]
theorem trL_len {cut : Int} {l : List Wri} : (trL cut l).length = l.length := by
  by_cases h : l.length = 0
  · obtain rfl := List.length_eq_zero_iff.1 h; rfl
  · obtain ⟨m, hm⟩ : ∃ m, l.length = m + 1 := ⟨_, (Nat.succ_pred_eq_of_ne_zero h).symm⟩
    rw [trL_set hm, List.length_set]
theorem trL_cnt {cut : Int} {l : List Wri} : cnt (fun w : Wri => w.b.length) (trL cut l) ≤ cnt (fun w : Wri => w.b.length) l := by
  by_cases h : l.length = 0
  · obtain rfl := List.length_eq_zero_iff.1 h; exact Nat.le_refl _
  · obtain ⟨m, hm⟩ : ∃ m, l.length = m + 1 := ⟨_, (Nat.succ_pred_eq_of_ne_zero h).symm⟩
    have e : l = l.take m ++ [l[m]'(by omega)] := by
      rw [← take_one (by omega), List.take_of_length_le (by omega)]
    have e2 : trL cut l = trL cut (l.take m ++ [l[m]'(by omega)]) := congrArg _ e
    have e3 : cnt (fun w : Wri => w.b.length) l = cnt (fun w : Wri => w.b.length) (l.take m ++ [l[m]'(by omega)]) := congrArg _ e
    rw [e2, trL_app, e3, cnt_app, cnt_app]
    simp [cnt]; omega
theorem shi {keep : Int} {i : Nat} : keep.fdiv (2 ^ min (i : Int).toNat IntKind.i64.bits) = keep.fdiv (2 ^ min i 64) := rfl

set_option maxRecDepth 100000 in
theorem tx110 {d : Dsk} {f : Fau} (hd : zD d ≤ 2000000 := by first | assumption | omega | (simp; done) | (simp; omega)) (hc : 0 ≤ f.cut := by first | assumption | omega | (simp; done) | (simp; omega)) (hn : ∀ w ∈ d.cache, 0 ≤ w.n ∧ w.n < d.secs.length := by first | assumption | omega | (simp; done) | (simp; omega)) : T 110 [.own true 0 0 (dskC true d), .val true (fauC f)] [] [some (dskC true (losD d f)), none] := by
  refine w_callG md [] Tryz.func110 rfl ?_
  have hz : zD d = d.secs.length + cnt List.length d.secs + (d.cache.length + cnt (fun w : Wri => w.b.length) d.cache) + d.faults.length := rfl
  obtain ⟨p, q, c⟩ := f
  obtain ⟨k, rfl⟩ : ∃ k : Nat, c = k := ⟨c.toNat, by simp only at hc; omega⟩
  conv => whnf
  refine bstep (w_outE 0 [slE true d.secs] d.cache [i6 d.ops, slE true d.faults, b1 d.down] 2) ?_
  refine bstep (w_frz 2 d.cache) ?_
  repeat' ((conv => whnf); (first | refine k0 ?_ | refine jA fun _ => ?_ | refine jB fun _ => ?_ | refine kC (fun _ => ?_) fun _ => ?_ | (apply cx115; refine kl tx115 ?_) | refine jst ?_ | exact ⟨rfl, rfl⟩ | exact jV | fail))
  conv => whnf
  refine loopk (ι := Nat) (fun i => i ≤ d.cache.length) (fun i => d.cache.length - i) (0) [0, 3, 12, 13] (fun i => [(4, .v false [.ref 4 0 (kpI q d.cache i).length 2]), (14, .v false [i6 i])]) [none, none, none, none, some fun i => (true, cs false (kpI q d.cache i))] ?_
  refine ⟨by omega, ?_, fun i hi => ?_⟩
  · exact (w_virt 4 2 rfl rfl).trans (jw [0])
  · refine ⟨fun hlt => ?_, fun hge => ?_⟩
    · have hi2 : i < d.cache.length := by omega
      have hn' := hn _ (List.getElem_mem hi2)
      have hc' := cnt_ge (c := fun w : Wri => w.b.length) hi2
      have hkl := kpI_len (keep := q) (l := d.cache) (i := i)
      by_cases h20 : i < 20
      · repeat' ((conv => whnf); (first | refine Exists.intro _ (Exists.intro _ (And.intro rfl (And.intro ⟨by simp <;> omega, bgb (by omega), bg (by omega)⟩ (apR (xs := kpI q d.cache i) ?_)))) | refine And.intro (by omega) (Exists.intro (q.fdiv (2 ^ min i 64)) (And.intro rfl ?_)) | refine k0 ?_ | refine jA fun _ => ?_ | refine jB fun _ => ?_ | refine kC (fun _ => ?_) fun _ => ?_ | (apply cx115; refine kl tx115 ?_) | refine jst ?_ | exact ⟨rfl, rfl⟩ | exact jV | fail))
        · have e := kpI_yes hi2 h20 (bitK_y ‹_›)
          have hl1 : (kpI q d.cache (i + 1)).length = (kpI q d.cache i).length + 1 := by rw [e]; simp
          refine ⟨⟨i + 1, by omega⟩, by simp only; omega, ?_⟩
          exact w_autoX [0] (by (conv => whnf); exact And.intro (by kernel_rfl) (And.intro (by kernel_rfl) (by repeat' (first | (with_reducible exact rfl) | ((conv => whnf); first | exact trivial | exact cs_clo _ | exact (by rw [e, Enc.app]; rfl) | exact rfl | exact tvi (by first | omega | (dsimp only; omega) | (simp; done)) | exact tvr (by first | omega | (dsimp only; omega) | (simp; done) | (simp; omega)) | exact ⟨rfl, clo_i, by first | rfl | rw [List.take_length] | assumption⟩ | refine And.intro ?_ ?_)))))
        · have e : kpI q d.cache (i + 1) = kpI q d.cache i := kpI_no fun h => bitK_n ‹_› h.2
          have hl1 : (kpI q d.cache (i + 1)).length = (kpI q d.cache i).length := by rw [e]
          refine ⟨⟨i + 1, by omega⟩, by simp only; omega, ?_⟩
          exact w_autoX [0] (by (conv => whnf); exact And.intro (by kernel_rfl) (And.intro (by kernel_rfl) (by repeat' (first | (with_reducible exact rfl) | ((conv => whnf); first | exact trivial | exact (by rw [e]; exact ⟨rfl, cs_clo _, rfl⟩) | exact rfl | exact tvi (by first | omega | (dsimp only; omega) | (simp; done)) | exact tvr (by first | omega | (dsimp only; omega) | (simp; done) | (simp; omega)) | exact ⟨rfl, clo_i, by first | rfl | rw [List.take_length] | assumption⟩ | refine And.intro ?_ ?_)))))
      · repeat' ((conv => whnf); (first | refine k0 ?_ | refine jA fun _ => ?_ | refine jB fun _ => ?_ | refine kC (fun _ => ?_) fun _ => ?_ | (apply cx115; refine kl tx115 ?_) | refine jst ?_ | exact ⟨rfl, rfl⟩ | exact jV | fail))
        · have e : kpI q d.cache (i + 1) = kpI q d.cache i := kpI_no fun h => h20 h.1
          have hl1 : (kpI q d.cache (i + 1)).length = (kpI q d.cache i).length := by rw [e]
          refine ⟨⟨i + 1, by omega⟩, by simp only; omega, ?_⟩
          exact w_autoX [0] (by (conv => whnf); exact And.intro (by kernel_rfl) (And.intro (by kernel_rfl) (by repeat' (first | (with_reducible exact rfl) | ((conv => whnf); first | exact trivial | exact (by rw [e]; exact ⟨rfl, cs_clo _, rfl⟩) | exact rfl | exact tvi (by first | omega | (dsimp only; omega) | (simp; done)) | exact tvr (by first | omega | (dsimp only; omega) | (simp; done) | (simp; omega)) | exact ⟨rfl, clo_i, by first | rfl | rw [List.take_length] | assumption⟩ | refine And.intro ?_ ?_)))))
    · obtain rfl : i = d.cache.length := by omega
      have hkl := kpI_len (keep := q) (l := d.cache) (i := d.cache.length)
      have hkc := kpI_cnt (c := fun w : Wri => w.b.length) (keep := q) (l := d.cache) (i := d.cache.length) (Nat.le_refl _)
      rw [List.take_length] at hkc
      have hkm : ∀ w ∈ kpI q d.cache d.cache.length, 0 ≤ w.n ∧ w.n < d.secs.length := fun w hw => hn w (kpI_mem hw)
      by_cases h0 : (kpI q d.cache d.cache.length).length = 0
      · have hz2 : zD ⟨d.secs, kpI q d.cache d.cache.length, d.ops, d.faults, d.down⟩ ≤ 2000000 := by
          have : zD ⟨d.secs, kpI q d.cache d.cache.length, d.ops, d.faults, d.down⟩ = d.secs.length + cnt List.length d.secs + ((kpI q d.cache d.cache.length).length + cnt (fun w : Wri => w.b.length) (kpI q d.cache d.cache.length)) + d.faults.length := rfl
          omega
        repeat' ((conv => whnf); (first | refine jA fun _ => ?_ | refine jB fun _ => ?_ | refine kC (fun _ => ?_) fun _ => ?_ | (apply cx115; refine kl tx115 ?_) | refine jst ?_ | exact ⟨rfl, rfl⟩ | exact jV | fail))
        conv => whnf
        refine k0 ?_
        repeat' ((conv => whnf); (first | refine jA fun _ => ?_ | refine jB fun _ => ?_ | refine kC (fun _ => ?_) fun _ => ?_ | (apply cx115; refine kl tx115 ?_) | refine jst ?_ | exact ⟨rfl, rfl⟩ | exact jV | fail))
        conv => whnf
        refine k0 ?_
        repeat' ((conv => whnf); (first | refine jA fun _ => ?_ | refine jB fun _ => ?_ | refine kC (fun _ => ?_) fun _ => ?_ | (apply cx115; refine kl tx115 ?_) | refine jst ?_ | exact ⟨rfl, rfl⟩ | exact jV | fail))
        conv => whnf
        refine k0 ?_
        repeat' ((conv => whnf); (first | refine jA fun _ => ?_ | refine jB fun _ => ?_ | refine kC (fun _ => ?_) fun _ => ?_ | (apply cx115; refine kl tx115 ?_) | refine jst ?_ | exact ⟨rfl, rfl⟩ | exact jV | fail))
        conv => whnf
        refine k0 ?_
        repeat' ((conv => whnf); (first | refine jA fun _ => ?_ | refine jB fun _ => ?_ | refine kC (fun _ => ?_) fun _ => ?_ | (apply cx115; refine kl tx115 ?_) | refine jst ?_ | exact ⟨rfl, rfl⟩ | exact jV | fail))
        conv => whnf
        refine k0 ?_
        repeat' ((conv => whnf); (first | refine jA fun _ => ?_ | refine jB fun _ => ?_ | refine kC (fun _ => ?_) fun _ => ?_ | (apply cx115; refine kl tx115 ?_) | refine jst ?_ | exact ⟨rfl, rfl⟩ | exact jV | fail))
        conv => whnf
        refine bstep (w_inl 0 4 [slE true d.secs] [i6 d.ops, slE true d.faults, b1 d.down] (c := (kpI q d.cache d.cache.length).length) (s' := 2) (cs := cs false (kpI q d.cache d.cache.length)) (cs1 := [slE true d.secs, .sl true (kpI q d.cache d.cache.length).length 2 (cs false (kpI q d.cache d.cache.length)), i6 d.ops, slE true d.faults, b1 d.down]) rfl rfl rfl rfl rfl (cs_shal _) (cs_len _) (by decide)) ?_
        have hS : T 115 [.own true 0 0 [slE true d.secs, .sl true (kpI q d.cache d.cache.length).length 2 (cs false (kpI q d.cache d.cache.length)), i6 d.ops, slE true d.faults, b1 d.down]] [] [some (dskC true ⟨stl d.secs (kpI q d.cache d.cache.length), [], d.ops, d.faults, d.down⟩)] := tx115 (o := false) (d := ⟨d.secs, kpI q d.cache d.cache.length, d.ops, d.faults, d.down⟩) (hn := hkm)
        repeat' ((conv => whnf); (first | (apply cx115; refine kl (hS) ?_) | refine k0 ?_ | refine jA fun _ => ?_ | refine jB fun _ => ?_ | refine kC (fun _ => ?_) fun _ => ?_ | (apply cx115; refine kl tx115 ?_) | refine jst ?_ | exact ⟨rfl, rfl⟩ | exact jV | fail))
        exact ⟨rfl, by have e0 := List.length_eq_zero_iff.1 h0; unfold losD; simp only [e0]; rfl⟩
      · obtain ⟨m, hm⟩ : ∃ m, (kpI q d.cache d.cache.length).length = m + 1 := ⟨_, (Nat.succ_pred_eq_of_ne_zero h0).symm⟩
        repeat' ((conv => whnf); (first | refine jA fun _ => ?_ | refine jB fun _ => ?_ | refine kC (fun _ => ?_) fun _ => ?_ | (apply cx115; refine kl tx115 ?_) | refine jst ?_ | exact ⟨rfl, rfl⟩ | exact jV | fail))
        conv => whnf
        refine k0 ?_
        repeat' ((conv => whnf); (first | refine jA fun _ => ?_ | refine jB fun _ => ?_ | refine kC (fun _ => ?_) fun _ => ?_ | (apply cx115; refine kl tx115 ?_) | refine jst ?_ | exact ⟨rfl, rfl⟩ | exact jV | fail))
        conv => whnf
        refine k0 ?_
        repeat' ((conv => whnf); (first | refine jA fun _ => ?_ | refine jB fun _ => ?_ | refine kC (fun _ => ?_) fun _ => ?_ | (apply cx115; refine kl tx115 ?_) | refine jst ?_ | exact ⟨rfl, rfl⟩ | exact jV | fail))
        conv => whnf
        refine k0 ?_
        repeat' ((conv => whnf); (first | refine jA fun _ => ?_ | refine jB fun _ => ?_ | refine kC (fun _ => ?_) fun _ => ?_ | (apply cx115; refine kl tx115 ?_) | refine jst ?_ | exact ⟨rfl, rfl⟩ | exact jV | fail))
        conv => whnf
        refine k0 ?_
        have hm1 : ((kpI q d.cache d.cache.length).length : Int) - 1 = (m : Nat) := by omega
        repeat' ((conv => whnf); (first | refine ko (ct0J (i := m) hm1 (by omega)) ?_ | refine ko (ptWJ (i := m) hm1 (by omega)) ?_ | refine Exists.intro _ (Exists.intro _ (Exists.intro _ (And.intro rfl (And.intro bndMin (And.intro (sl_to (Nat.min_le_right _ _)) ?_))))) | refine jA fun _ => ?_ | refine jB fun _ => ?_ | refine kC (fun _ => ?_) fun _ => ?_ | (apply cx115; refine kl tx115 ?_) | refine jst ?_ | exact ⟨rfl, rfl⟩ | exact jV | fail))
        conv => whnf
        refine k0 ?_
        repeat' ((conv => whnf); (first | refine ko (ct0J (i := m) hm1 (by omega)) ?_ | refine ko (ptWJ (i := m) hm1 (by omega)) ?_ | refine Exists.intro _ (Exists.intro _ (Exists.intro _ (And.intro rfl (And.intro bndMin (And.intro (sl_to (Nat.min_le_right _ _)) ?_))))) | refine jA fun _ => ?_ | refine jB fun _ => ?_ | refine kC (fun _ => ?_) fun _ => ?_ | (apply cx115; refine kl tx115 ?_) | refine jst ?_ | exact ⟨rfl, rfl⟩ | exact jV | fail))
        conv => whnf
        refine k0 ?_
        repeat' ((conv => whnf); (first | refine ko (ct0J (i := m) hm1 (by omega)) ?_ | refine ko (ptWJ (i := m) hm1 (by omega)) ?_ | refine Exists.intro _ (Exists.intro _ (Exists.intro _ (And.intro rfl (And.intro bndMin (And.intro (sl_to (Nat.min_le_right _ _)) ?_))))) | refine jA fun _ => ?_ | refine jB fun _ => ?_ | refine kC (fun _ => ?_) fun _ => ?_ | (apply cx115; refine kl tx115 ?_) | refine jst ?_ | exact ⟨rfl, rfl⟩ | exact jV | fail))
        conv => whnf
        have e2 : (trL (k : Int) (kpI q d.cache d.cache.length)) = (kpI q d.cache d.cache.length).set m ⟨(kpI q d.cache d.cache.length)[m].n, (kpI q d.cache d.cache.length)[m].b.take (min k (kpI q d.cache d.cache.length)[m].b.length)⟩ := by rw [trL_set hm, take_mn]; rfl
        have htl := trL_len (cut := (k : Int)) (l := (kpI q d.cache d.cache.length))
        have htc := trL_cnt (cut := (k : Int)) (l := (kpI q d.cache d.cache.length))
        have hkm2 : ∀ w ∈ (trL (k : Int) (kpI q d.cache d.cache.length)), 0 ≤ w.n ∧ w.n < d.secs.length := fun w hw => by
          obtain ⟨v, hv, e, _⟩ := trL_mem hw
          rw [e]; exact hkm v hv
        have hz2 : zD ⟨d.secs, (trL (k : Int) (kpI q d.cache d.cache.length)), d.ops, d.faults, d.down⟩ ≤ 2000000 := by
          have : zD ⟨d.secs, (trL (k : Int) (kpI q d.cache d.cache.length)), d.ops, d.faults, d.down⟩ = d.secs.length + cnt List.length d.secs + ((trL (k : Int) (kpI q d.cache d.cache.length)).length + cnt (fun w : Wri => w.b.length) (trL (k : Int) (kpI q d.cache d.cache.length))) + d.faults.length := rfl
          omega
        have hS : T 115 [.own true 0 0 [slE true d.secs, .sl true (trL (k : Int) (kpI q d.cache d.cache.length)).length 2 (cs false (trL (k : Int) (kpI q d.cache d.cache.length))), i6 d.ops, slE true d.faults, b1 d.down]] [] [some (dskC true ⟨stl d.secs (trL (k : Int) (kpI q d.cache d.cache.length)), [], d.ops, d.faults, d.down⟩)] := tx115 (o := false) (d := ⟨d.secs, (trL (k : Int) (kpI q d.cache d.cache.length)), d.ops, d.faults, d.down⟩) (hn := hkm2)
        refine bstep (w_inl 0 4 [slE true d.secs] [i6 d.ops, slE true d.faults, b1 d.down] (c := (kpI q d.cache d.cache.length).length) (s' := 2) (cs := cs false (trL (k : Int) (kpI q d.cache d.cache.length))) (cs1 := [slE true d.secs, .sl true (trL (k : Int) (kpI q d.cache d.cache.length)).length 2 (cs false (trL (k : Int) (kpI q d.cache d.cache.length))), i6 d.ops, slE true d.faults, b1 d.down]) rfl rfl rfl (by rw [htl]; rfl) (by rw [e2]; rfl) (cs_shal _) (by rw [cs_len, htl]; rfl) (by decide)) ?_
        repeat' ((conv => whnf); (first | (apply cx115; refine kl (hS) ?_) | refine k0 ?_ | refine jA fun _ => ?_ | refine jB fun _ => ?_ | refine kC (fun _ => ?_) fun _ => ?_ | (apply cx115; refine kl tx115 ?_) | refine jst ?_ | exact ⟨rfl, rfl⟩ | exact jV | fail))

theorem cx110 {P : Program} {X : FuncId → List Arg → List (Bool × List Cell) → List (Option (List Cell)) → Prop} {a : List Arg} {Q : List (Bool × List Cell) → List (Option (List Cell)) → Prop} (h : ∃ b vals outs, a = b ∧ D P X (.call 110 b vals outs) ∧ Q vals outs) : CallS P X 110 a Q := ⟨h⟩

set_option maxRecDepth 100000 in
theorem tx61 {d : Dsk} {n : Int} {b : List UInt8} (hd : zD d ≤ 1000000 := by first | assumption | omega | (simp; done) | (simp; omega)) (hb : b.length ≤ 500000 := by first | assumption | omega | (simp; done) | (simp; omega)) : T 61 [.val true (dskC false d), aI n, aE b] [(true, dskC true (wsD d n b).1), vI (wsD d n b).2] [none, none, none] := by
  refine w_call md [[], []] Tryz.func61 rfl ?_
  have hz : zD d = d.secs.length + cnt List.length d.secs + (d.cache.length + cnt (fun w : Wri => w.b.length) d.cache) + d.faults.length := rfl
  by_cases hA : DskOk d ∧ 0 ≤ n ∧ n < (d.secs.length : Int) ∧ b.length ≤ 256 ∧ d.cache.length < 60
  · obtain ⟨hA1, hA2, hA3, hA4, hA5⟩ := id hA
    have hk : dskOk d = true := dskOk_iff.2 hA1
    have hI : inB n 0 (d.secs.length - 1) = true := inB_iff.2 (by omega)
    have ho := hA1.ops
    have hs4 := hA1.secs
    by_cases hdn : d.down = true
    · obtain ⟨secs, cache, ops, faults, down⟩ := d
      obtain rfl : down = true := hdn
      repeat' ((conv => whnf); (first | refine k0 ?_ | refine jA fun _ => ?_ | refine jB fun _ => ?_ | refine kC (fun _ => ?_) fun _ => ?_ | (apply cx60; refine kl tx60 ?_) | (apply cx51; refine kl tx51 ?_) | (apply cx98; refine kl tx98 ?_) | (apply cx109; refine kl tx109 ?_) | (apply cx108; refine kl tx108 ?_) | (apply cx110; refine kl tx110 ?_) | refine jst ?_ | exact ⟨rfl, rfl⟩ | exact jV | fail))
      exact ⟨by rw [wsD_y hA, wrD_9 (.inl rfl)]; rfl, rfl⟩
    · have hdf : d.down = false := by cases h : d.down with
        | true => exact absurd h hdn
        | false => rfl
      by_cases hO : 100000 ≤ d.ops
      · obtain ⟨secs, cache, ops, faults, down⟩ := d
        obtain rfl : down = false := hdf
        repeat' ((conv => whnf); (first | refine k0 ?_ | refine jA fun _ => ?_ | refine jB fun _ => ?_ | refine kC (fun _ => ?_) fun _ => ?_ | (apply cx60; refine kl tx60 ?_) | (apply cx51; refine kl tx51 ?_) | (apply cx98; refine kl tx98 ?_) | (apply cx109; refine kl tx109 ?_) | (apply cx108; refine kl tx108 ?_) | (apply cx110; refine kl tx110 ?_) | refine jst ?_ | exact ⟨rfl, rfl⟩ | exact jV | fail))
        exact ⟨by rw [wsD_y hA, wrD_9 (.inr hO)]; rfl, rfl⟩
      · have hno : ¬ (d.down = true ∨ 100000 ≤ d.ops) := by intro h; rcases h with h | h; exact hdn h; exact hO h
        have h1 : 0 ≤ ((fltD d).getD ⟨0, 0, 0⟩).cut := by
          cases hf : fltD d with
          | none => exact Int.le_refl 0
          | some f => exact hA1.cut' f (List.mem_of_find?_eq_some hf)
        have h2 : zD ({ d with ops := d.ops + 1, cache := d.cache ++ [(⟨n, b⟩ : Wri)] } : Dsk) ≤ 2000000 := by
          have e : zD ({ d with ops := d.ops + 1, cache := d.cache ++ [(⟨n, b⟩ : Wri)] } : Dsk) = d.secs.length + cnt List.length d.secs + ((d.cache ++ [(⟨n, b⟩ : Wri)]).length + cnt (fun w : Wri => w.b.length) (d.cache ++ [⟨n, b⟩])) + d.faults.length := rfl
          have e2 : cnt (fun w : Wri => w.b.length) (d.cache ++ [⟨n, b⟩]) = cnt (fun w : Wri => w.b.length) d.cache + b.length := by rw [cnt_app]; rfl
          rw [e, e2, List.length_append, List.length_singleton]; omega
        have h3 : ∀ w ∈ d.cache ++ [(⟨n, b⟩ : Wri)], 0 ≤ w.n ∧ w.n < d.secs.length := by
          intro w hw; rcases List.mem_append.1 hw with hw | hw
          · exact ⟨(hA1.wri' w hw).1, (hA1.wri' w hw).2.1⟩
          · obtain rfl := List.mem_singleton.1 hw; exact ⟨hA2, hA3⟩
        obtain ⟨secs, cache, ops, faults, down⟩ := d
        obtain rfl : down = false := hdf
        repeat' ((conv => whnf); (first | refine jA fun _ => ?_ | refine jB fun _ => ?_ | refine kC (fun _ => ?_) fun _ => ?_ | (apply cx60; refine kl tx60 ?_) | (apply cx51; refine kl tx51 ?_) | (apply cx98; refine kl tx98 ?_) | (apply cx109; refine kl tx109 ?_) | (apply cx108; refine kl tx108 ?_) | (apply cx110; refine kl tx110 ?_) | refine jst ?_ | exact ⟨rfl, rfl⟩ | exact jV | fail))
        conv => whnf
        refine k0 ?_
        repeat' ((conv => whnf); (first | refine jA fun _ => ?_ | refine jB fun _ => ?_ | refine kC (fun _ => ?_) fun _ => ?_ | (apply cx60; refine kl tx60 ?_) | (apply cx51; refine kl tx51 ?_) | (apply cx98; refine kl tx98 ?_) | (apply cx109; refine kl tx109 ?_) | (apply cx108; refine kl tx108 ?_) | (apply cx110; refine kl tx110 ?_) | refine jst ?_ | exact ⟨rfl, rfl⟩ | exact jV | fail))
        conv => whnf
        refine k0 ?_
        repeat' ((conv => whnf); (first | refine jA fun _ => ?_ | refine jB fun _ => ?_ | refine kC (fun _ => ?_) fun _ => ?_ | (apply cx60; refine kl tx60 ?_) | (apply cx51; refine kl tx51 ?_) | (apply cx98; refine kl tx98 ?_) | (apply cx109; refine kl tx109 ?_) | (apply cx108; refine kl tx108 ?_) | (apply cx110; refine kl tx110 ?_) | refine jst ?_ | exact ⟨rfl, rfl⟩ | exact jV | fail))
        conv => whnf
        refine k0 ?_
        repeat' ((conv => whnf); (first | refine jA fun _ => ?_ | refine jB fun _ => ?_ | refine kC (fun _ => ?_) fun _ => ?_ | (apply cx60; refine kl tx60 ?_) | (apply cx51; refine kl tx51 ?_) | (apply cx98; refine kl tx98 ?_) | (apply cx109; refine kl tx109 ?_) | (apply cx108; refine kl tx108 ?_) | (apply cx110; refine kl tx110 ?_) | refine jst ?_ | exact ⟨rfl, rfl⟩ | exact jV | fail))
        conv => whnf
        refine bstep (w_inE 8 5 [] (⟨secs, cache, ops, faults, false⟩ : Dsk).secs [.ref 6 0 (⟨secs, cache, ops, faults, false⟩ : Dsk).cache.length 2, i6 (⟨secs, cache, ops, faults, false⟩ : Dsk).ops, .ref 7 0 (⟨secs, cache, ops, faults, false⟩ : Dsk).faults.length 3, b1 (⟨secs, cache, ops, faults, false⟩ : Dsk).down] (⟨secs, cache, ops, faults, false⟩ : Dsk).secs.length 1 rfl) ?_
        refine bstep (w_inE 8 6 [slE true (⟨secs, cache, ops, faults, false⟩ : Dsk).secs] (⟨secs, cache, ops, faults, false⟩ : Dsk).cache [i6 (⟨secs, cache, ops, faults, false⟩ : Dsk).ops, .ref 7 0 (⟨secs, cache, ops, faults, false⟩ : Dsk).faults.length 3, b1 (⟨secs, cache, ops, faults, false⟩ : Dsk).down] (⟨secs, cache, ops, faults, false⟩ : Dsk).cache.length 2 rfl) ?_
        refine bstep (w_inE (cs1 := dskC true (⟨secs, cache, ops, faults, false⟩ : Dsk)) 8 7 [slE true (⟨secs, cache, ops, faults, false⟩ : Dsk).secs, slE true (⟨secs, cache, ops, faults, false⟩ : Dsk).cache, i6 (⟨secs, cache, ops, faults, false⟩ : Dsk).ops] (⟨secs, cache, ops, faults, false⟩ : Dsk).faults [b1 (⟨secs, cache, ops, faults, false⟩ : Dsk).down] (⟨secs, cache, ops, faults, false⟩ : Dsk).faults.length 3 rfl) ?_
        refine k0 ?_
        repeat' ((conv => whnf); (first | refine jA fun _ => ?_ | refine jB fun _ => ?_ | refine kC (fun _ => ?_) fun _ => ?_ | (apply cx60; refine kl tx60 ?_) | (apply cx51; refine kl tx51 ?_) | (apply cx98; refine kl tx98 ?_) | (apply cx109; refine kl tx109 ?_) | (apply cx108; refine kl tx108 ?_) | (apply cx110; refine kl tx110 ?_) | refine jst ?_ | exact ⟨rfl, rfl⟩ | exact jV | fail))
        conv => whnf
        refine k0 ?_
        repeat' ((conv => whnf); (first | refine jA fun _ => ?_ | refine jB fun _ => ?_ | refine kC (fun _ => ?_) fun _ => ?_ | (apply cx60; refine kl tx60 ?_) | (apply cx51; refine kl tx51 ?_) | (apply cx98; refine kl tx98 ?_) | (apply cx109; refine kl tx109 ?_) | (apply cx108; refine kl tx108 ?_) | (apply cx110; refine kl tx110 ?_) | refine jst ?_ | exact ⟨rfl, rfl⟩ | exact jV | fail))
        conv => whnf
        refine k0 ?_
        repeat' ((conv => whnf); (first | (apply cx109; refine kl (tx109 (d := (⟨secs, cache, ops, faults, false⟩ : Dsk))) ?_) | refine jA fun _ => ?_ | refine jB fun _ => ?_ | refine kC (fun _ => ?_) fun _ => ?_ | (apply cx60; refine kl tx60 ?_) | (apply cx51; refine kl tx51 ?_) | (apply cx98; refine kl tx98 ?_) | (apply cx109; refine kl tx109 ?_) | (apply cx108; refine kl tx108 ?_) | (apply cx110; refine kl tx110 ?_) | refine jst ?_ | exact ⟨rfl, rfl⟩ | exact jV | fail))
        · conv => whnf
          refine bstep (w_outE 8 [] (⟨secs, cache, ops, faults, false⟩ : Dsk).secs [slE true (⟨secs, cache, ops, faults, false⟩ : Dsk).cache, i6 (⟨secs, cache, ops, faults, false⟩ : Dsk).ops, slE true (⟨secs, cache, ops, faults, false⟩ : Dsk).faults, b1 (⟨secs, cache, ops, faults, false⟩ : Dsk).down] 1) ?_
          refine bstep (w_outE 8 [_] (⟨secs, cache, ops, faults, false⟩ : Dsk).cache [i6 (⟨secs, cache, ops, faults, false⟩ : Dsk).ops, slE true (⟨secs, cache, ops, faults, false⟩ : Dsk).faults, b1 (⟨secs, cache, ops, faults, false⟩ : Dsk).down] 2) ?_
          refine bstep (w_outE 8 [_, _, i6 (⟨secs, cache, ops, faults, false⟩ : Dsk).ops] (⟨secs, cache, ops, faults, false⟩ : Dsk).faults [b1 (⟨secs, cache, ops, faults, false⟩ : Dsk).down] 3) ?_
          refine k0 ?_
          repeat' ((conv => whnf); (first | refine jA fun _ => ?_ | refine jB fun _ => ?_ | refine kC (fun _ => ?_) fun _ => ?_ | (apply cx60; refine kl tx60 ?_) | (apply cx51; refine kl tx51 ?_) | (apply cx98; refine kl tx98 ?_) | (apply cx109; refine kl tx109 ?_) | (apply cx108; refine kl tx108 ?_) | (apply cx110; refine kl tx110 ?_) | refine jst ?_ | exact ⟨rfl, rfl⟩ | exact jV | fail))
          conv => whnf
          refine k0 ?_
          repeat' ((conv => whnf); (first | refine Exists.intro _ (Exists.intro _ (And.intro rfl (And.intro ⟨by simp <;> omega, bgb (by omega), bg (by omega)⟩ (apR (xs := cache) ?_)))) | refine jA fun _ => ?_ | refine jB fun _ => ?_ | refine kC (fun _ => ?_) fun _ => ?_ | (apply cx60; refine kl tx60 ?_) | (apply cx51; refine kl tx51 ?_) | (apply cx98; refine kl tx98 ?_) | (apply cx109; refine kl tx109 ?_) | (apply cx108; refine kl tx108 ?_) | (apply cx110; refine kl tx110 ?_) | refine jst ?_ | exact ⟨rfl, rfl⟩ | exact jV | fail))
          conv => whnf
          refine bstep (w_inE 125 77 (cs true cache ++ [i6 n]) b [] b.length 1 (wr_app (n := n))) ?_
          refine bstep (w_inE 8 125 [.ref 10 0 secs.length 1] (cache ++ [⟨n, b⟩]) [i6 (ops + 1), .ref 12 0 faults.length 3, b1 false] (cache.length + 1) 2 rfl) ?_
          refine bstep (w_inE 8 10 [] secs [slE true (cache ++ [⟨n, b⟩]), i6 (ops + 1), .ref 12 0 faults.length 3, b1 false] secs.length 1 rfl) ?_
          refine bstep (w_inE (cs1 := dskC true (⟨secs, cache ++ [(⟨n, b⟩ : Wri)], ops + 1, faults, false⟩ : Dsk)) 8 12 [slE true secs, slE true (cache ++ [⟨n, b⟩]), i6 (ops + 1)] faults [b1 false] faults.length 3 rfl) ?_
          refine k0 ?_
          repeat' ((conv => whnf); (first | refine jA fun _ => ?_ | refine jB fun _ => ?_ | refine kC (fun _ => ?_) fun _ => ?_ | (apply cx60; refine kl tx60 ?_) | (apply cx51; refine kl tx51 ?_) | (apply cx98; refine kl tx98 ?_) | (apply cx109; refine kl tx109 ?_) | (apply cx108; refine kl tx108 ?_) | (apply cx110; refine kl tx110 ?_) | refine jst ?_ | exact ⟨rfl, rfl⟩ | exact jV | fail))
          conv => whnf
          refine k0 ?_
          repeat' ((conv => whnf); (first | (apply cx110; refine kl (tx110 (d := (⟨secs, cache ++ [(⟨n, b⟩ : Wri)], ops + 1, faults, false⟩ : Dsk)) (f := (fltD ⟨secs, cache, ops, faults, false⟩).getD ⟨0, 0, 0⟩)) ?_) | refine jA fun _ => ?_ | refine jB fun _ => ?_ | refine kC (fun _ => ?_) fun _ => ?_ | (apply cx60; refine kl tx60 ?_) | (apply cx51; refine kl tx51 ?_) | (apply cx98; refine kl tx98 ?_) | (apply cx109; refine kl tx109 ?_) | (apply cx108; refine kl tx108 ?_) | (apply cx110; refine kl tx110 ?_) | refine jst ?_ | exact ⟨rfl, rfl⟩ | exact jV | fail))
          conv => whnf
          refine bstep (w_outE 8 [] (losD (⟨secs, cache ++ [(⟨n, b⟩ : Wri)], ops + 1, faults, false⟩ : Dsk) ((fltD ⟨secs, cache, ops, faults, false⟩).getD ⟨0, 0, 0⟩)).secs [slE true (losD (⟨secs, cache ++ [(⟨n, b⟩ : Wri)], ops + 1, faults, false⟩ : Dsk) ((fltD ⟨secs, cache, ops, faults, false⟩).getD ⟨0, 0, 0⟩)).cache, i6 (losD (⟨secs, cache ++ [(⟨n, b⟩ : Wri)], ops + 1, faults, false⟩ : Dsk) ((fltD ⟨secs, cache, ops, faults, false⟩).getD ⟨0, 0, 0⟩)).ops, slE true (losD (⟨secs, cache ++ [(⟨n, b⟩ : Wri)], ops + 1, faults, false⟩ : Dsk) ((fltD ⟨secs, cache, ops, faults, false⟩).getD ⟨0, 0, 0⟩)).faults, b1 (losD (⟨secs, cache ++ [(⟨n, b⟩ : Wri)], ops + 1, faults, false⟩ : Dsk) ((fltD ⟨secs, cache, ops, faults, false⟩).getD ⟨0, 0, 0⟩)).down] 1) ?_
          refine bstep (w_outE 8 [_] (losD (⟨secs, cache ++ [(⟨n, b⟩ : Wri)], ops + 1, faults, false⟩ : Dsk) ((fltD ⟨secs, cache, ops, faults, false⟩).getD ⟨0, 0, 0⟩)).cache [i6 (losD (⟨secs, cache ++ [(⟨n, b⟩ : Wri)], ops + 1, faults, false⟩ : Dsk) ((fltD ⟨secs, cache, ops, faults, false⟩).getD ⟨0, 0, 0⟩)).ops, slE true (losD (⟨secs, cache ++ [(⟨n, b⟩ : Wri)], ops + 1, faults, false⟩ : Dsk) ((fltD ⟨secs, cache, ops, faults, false⟩).getD ⟨0, 0, 0⟩)).faults, b1 (losD (⟨secs, cache ++ [(⟨n, b⟩ : Wri)], ops + 1, faults, false⟩ : Dsk) ((fltD ⟨secs, cache, ops, faults, false⟩).getD ⟨0, 0, 0⟩)).down] 2) ?_
          refine bstep (w_outE 8 [_, _, i6 (losD (⟨secs, cache ++ [(⟨n, b⟩ : Wri)], ops + 1, faults, false⟩ : Dsk) ((fltD ⟨secs, cache, ops, faults, false⟩).getD ⟨0, 0, 0⟩)).ops] (losD (⟨secs, cache ++ [(⟨n, b⟩ : Wri)], ops + 1, faults, false⟩ : Dsk) ((fltD ⟨secs, cache, ops, faults, false⟩).getD ⟨0, 0, 0⟩)).faults [b1 (losD (⟨secs, cache ++ [(⟨n, b⟩ : Wri)], ops + 1, faults, false⟩ : Dsk) ((fltD ⟨secs, cache, ops, faults, false⟩).getD ⟨0, 0, 0⟩)).down] 3) ?_
          repeat' ((conv => whnf); (first | refine k0 ?_ | refine jA fun _ => ?_ | refine jB fun _ => ?_ | refine kC (fun _ => ?_) fun _ => ?_ | (apply cx60; refine kl tx60 ?_) | (apply cx51; refine kl tx51 ?_) | (apply cx98; refine kl tx98 ?_) | (apply cx109; refine kl tx109 ?_) | (apply cx108; refine kl tx108 ?_) | (apply cx110; refine kl tx110 ?_) | refine jst ?_ | exact ⟨rfl, rfl⟩ | exact jV | fail))
          obtain ⟨f, hf⟩ := Option.isSome_iff_exists.1 ‹(fltD _).isSome = true›
          exact ⟨by rw [wsD_y hA, wrD_f hno hf, hf]; rfl, rfl⟩
        · conv => whnf
          refine bstep (w_outE 8 [] (⟨secs, cache, ops, faults, false⟩ : Dsk).secs [slE true (⟨secs, cache, ops, faults, false⟩ : Dsk).cache, i6 (⟨secs, cache, ops, faults, false⟩ : Dsk).ops, slE true (⟨secs, cache, ops, faults, false⟩ : Dsk).faults, b1 (⟨secs, cache, ops, faults, false⟩ : Dsk).down] 1) ?_
          refine bstep (w_outE 8 [_] (⟨secs, cache, ops, faults, false⟩ : Dsk).cache [i6 (⟨secs, cache, ops, faults, false⟩ : Dsk).ops, slE true (⟨secs, cache, ops, faults, false⟩ : Dsk).faults, b1 (⟨secs, cache, ops, faults, false⟩ : Dsk).down] 2) ?_
          refine bstep (w_outE 8 [_, _, i6 (⟨secs, cache, ops, faults, false⟩ : Dsk).ops] (⟨secs, cache, ops, faults, false⟩ : Dsk).faults [b1 (⟨secs, cache, ops, faults, false⟩ : Dsk).down] 3) ?_
          refine k0 ?_
          repeat' ((conv => whnf); (first | refine jA fun _ => ?_ | refine jB fun _ => ?_ | refine kC (fun _ => ?_) fun _ => ?_ | (apply cx60; refine kl tx60 ?_) | (apply cx51; refine kl tx51 ?_) | (apply cx98; refine kl tx98 ?_) | (apply cx109; refine kl tx109 ?_) | (apply cx108; refine kl tx108 ?_) | (apply cx110; refine kl tx110 ?_) | refine jst ?_ | exact ⟨rfl, rfl⟩ | exact jV | fail))
          conv => whnf
          refine k0 ?_
          repeat' ((conv => whnf); (first | refine Exists.intro _ (Exists.intro _ (And.intro rfl (And.intro ⟨by simp <;> omega, bgb (by omega), bg (by omega)⟩ (apR (xs := cache) ?_)))) | refine jA fun _ => ?_ | refine jB fun _ => ?_ | refine kC (fun _ => ?_) fun _ => ?_ | (apply cx60; refine kl tx60 ?_) | (apply cx51; refine kl tx51 ?_) | (apply cx98; refine kl tx98 ?_) | (apply cx109; refine kl tx109 ?_) | (apply cx108; refine kl tx108 ?_) | (apply cx110; refine kl tx110 ?_) | refine jst ?_ | exact ⟨rfl, rfl⟩ | exact jV | fail))
          conv => whnf
          refine bstep (w_inE 125 77 (cs true cache ++ [i6 n]) b [] b.length 1 (wr_app (n := n))) ?_
          repeat' ((conv => whnf); (first | refine k0 ?_ | refine jA fun _ => ?_ | refine jB fun _ => ?_ | refine kC (fun _ => ?_) fun _ => ?_ | (apply cx60; refine kl tx60 ?_) | (apply cx51; refine kl tx51 ?_) | (apply cx98; refine kl tx98 ?_) | (apply cx109; refine kl tx109 ?_) | (apply cx108; refine kl tx108 ?_) | (apply cx110; refine kl tx110 ?_) | refine jst ?_ | exact ⟨rfl, rfl⟩ | exact jV | fail))
          have hf : fltD (⟨secs, cache, ops, faults, false⟩ : Dsk) = none := by
            cases h : fltD (⟨secs, cache, ops, faults, false⟩ : Dsk) with
            | none => rfl
            | some f => have := ‹(fltD _).isSome = false›; rw [h] at this; cases this
          have e : cache.length + 1 = (cache ++ [(⟨n, b⟩ : Wri)]).length := by simp
          exact ⟨by rw [wsD_y hA, wrD_n hno hf]; exact congrArg (fun k => [(true, [slE true secs, Cell.sl true k 2 (cs true (cache ++ [(⟨n, b⟩ : Wri)])), i6 (ops + 1), slE true faults, b1 false]), vI 0]) e, rfl⟩
  · repeat' ((conv => whnf); (first | refine k0 ?_ | refine jA fun _ => ?_ | refine jB fun _ => ?_ | refine kC (fun _ => ?_) fun _ => ?_ | (apply cx60; refine kl tx60 ?_) | (apply cx51; refine kl tx51 ?_) | (apply cx98; refine kl tx98 ?_) | (apply cx109; refine kl tx109 ?_) | (apply cx108; refine kl tx108 ?_) | (apply cx110; refine kl tx110 ?_) | refine jst ?_ | exact ⟨rfl, rfl⟩ | exact jV | fail))
    all_goals first
      | exact ⟨by rw [wsD_n hA]; rfl, rfl⟩
      | exact (hA ⟨dskOk_iff.1 ‹dskOk _ = true›, by have := inB_iff.1 ‹inB _ _ _ = true›; omega, by have := inB_iff.1 ‹inB _ _ _ = true›; omega, by omega, by omega⟩).elim

theorem cx61 {P : Program} {X : FuncId → List Arg → List (Bool × List Cell) → List (Option (List Cell)) → Prop} {a : List Arg} {Q : List (Bool × List Cell) → List (Option (List Cell)) → Prop} (h : ∃ b vals outs, a = b ∧ D P X (.call 61 b vals outs) ∧ Q vals outs) : CallS P X 61 a Q := ⟨h⟩

set_option maxRecDepth 100000 in
theorem tx64 {d : Dsk} (hd : zD d ≤ 1000000 := by first | assumption | omega | (simp; done) | (simp; omega)) : T 64 [.val true (dskC false d)] [(true, dskC true (fsD d).1), vI (fsD d).2] [none] := by
  refine w_call md [[], []] Tryz.func64 rfl ?_
  have hz : zD d = d.secs.length + cnt List.length d.secs + (d.cache.length + cnt (fun w : Wri => w.b.length) d.cache) + d.faults.length := rfl
  by_cases hA1 : DskOk d
  · have hk : dskOk d = true := dskOk_iff.2 hA1
    have ho := hA1.ops
    have hs4 := hA1.secs
    by_cases hdn : d.down = true
    · obtain ⟨secs, cache, ops, faults, down⟩ := d
      obtain rfl : down = true := hdn
      repeat' ((conv => whnf); (first | refine k0 ?_ | refine jA fun _ => ?_ | refine jB fun _ => ?_ | refine kC (fun _ => ?_) fun _ => ?_ | (apply cx60; refine kl tx60 ?_) | (apply cx51; refine kl tx51 ?_) | (apply cx109; refine kl tx109 ?_) | (apply cx110; refine kl tx110 ?_) | (apply cx115; refine kl tx115 ?_) | refine jst ?_ | exact ⟨rfl, rfl⟩ | exact jV | fail))
      exact ⟨by rw [fsD_y hA1, flD_9 (.inl rfl)]; rfl, rfl⟩
    · have hdf : d.down = false := by cases h : d.down with
        | true => exact absurd h hdn
        | false => rfl
      by_cases hO : 100000 ≤ d.ops
      · obtain ⟨secs, cache, ops, faults, down⟩ := d
        obtain rfl : down = false := hdf
        repeat' ((conv => whnf); (first | refine k0 ?_ | refine jA fun _ => ?_ | refine jB fun _ => ?_ | refine kC (fun _ => ?_) fun _ => ?_ | (apply cx60; refine kl tx60 ?_) | (apply cx51; refine kl tx51 ?_) | (apply cx109; refine kl tx109 ?_) | (apply cx110; refine kl tx110 ?_) | (apply cx115; refine kl tx115 ?_) | refine jst ?_ | exact ⟨rfl, rfl⟩ | exact jV | fail))
        exact ⟨by rw [fsD_y hA1, flD_9 (.inr hO)]; rfl, rfl⟩
      · have hno : ¬ (d.down = true ∨ 100000 ≤ d.ops) := by intro h; rcases h with h | h; exact hdn h; exact hO h
        have h1 : 0 ≤ ((fltD d).getD ⟨0, 0, 0⟩).cut := by
          cases hf : fltD d with
          | none => exact Int.le_refl 0
          | some f => exact hA1.cut' f (List.mem_of_find?_eq_some hf)
        have h2 : zD ({ d with ops := d.ops + 1 } : Dsk) ≤ 2000000 := by
          have e : zD ({ d with ops := d.ops + 1 } : Dsk) = zD d := rfl
          rw [e]; omega
        have h3 : ∀ w ∈ d.cache, 0 ≤ w.n ∧ w.n < d.secs.length := fun w hw => ⟨(hA1.wri' w hw).1, (hA1.wri' w hw).2.1⟩
        obtain ⟨secs, cache, ops, faults, down⟩ := d
        obtain rfl : down = false := hdf
        repeat' ((conv => whnf); (first | refine jA fun _ => ?_ | refine jB fun _ => ?_ | refine kC (fun _ => ?_) fun _ => ?_ | (apply cx60; refine kl tx60 ?_) | (apply cx51; refine kl tx51 ?_) | (apply cx109; refine kl tx109 ?_) | (apply cx110; refine kl tx110 ?_) | (apply cx115; refine kl tx115 ?_) | refine jst ?_ | exact ⟨rfl, rfl⟩ | exact jV | fail))
        conv => whnf
        refine k0 ?_
        repeat' ((conv => whnf); (first | refine jA fun _ => ?_ | refine jB fun _ => ?_ | refine kC (fun _ => ?_) fun _ => ?_ | (apply cx60; refine kl tx60 ?_) | (apply cx51; refine kl tx51 ?_) | (apply cx109; refine kl tx109 ?_) | (apply cx110; refine kl tx110 ?_) | (apply cx115; refine kl tx115 ?_) | refine jst ?_ | exact ⟨rfl, rfl⟩ | exact jV | fail))
        conv => whnf
        refine bstep (w_inE 6 3 [] (⟨secs, cache, ops, faults, false⟩ : Dsk).secs [.ref 4 0 (⟨secs, cache, ops, faults, false⟩ : Dsk).cache.length 2, i6 (⟨secs, cache, ops, faults, false⟩ : Dsk).ops, .ref 5 0 (⟨secs, cache, ops, faults, false⟩ : Dsk).faults.length 3, b1 (⟨secs, cache, ops, faults, false⟩ : Dsk).down] (⟨secs, cache, ops, faults, false⟩ : Dsk).secs.length 1 rfl) ?_
        refine bstep (w_inE 6 4 [slE true (⟨secs, cache, ops, faults, false⟩ : Dsk).secs] (⟨secs, cache, ops, faults, false⟩ : Dsk).cache [i6 (⟨secs, cache, ops, faults, false⟩ : Dsk).ops, .ref 5 0 (⟨secs, cache, ops, faults, false⟩ : Dsk).faults.length 3, b1 (⟨secs, cache, ops, faults, false⟩ : Dsk).down] (⟨secs, cache, ops, faults, false⟩ : Dsk).cache.length 2 rfl) ?_
        refine bstep (w_inE (cs1 := dskC true (⟨secs, cache, ops, faults, false⟩ : Dsk)) 6 5 [slE true (⟨secs, cache, ops, faults, false⟩ : Dsk).secs, slE true (⟨secs, cache, ops, faults, false⟩ : Dsk).cache, i6 (⟨secs, cache, ops, faults, false⟩ : Dsk).ops] (⟨secs, cache, ops, faults, false⟩ : Dsk).faults [b1 (⟨secs, cache, ops, faults, false⟩ : Dsk).down] (⟨secs, cache, ops, faults, false⟩ : Dsk).faults.length 3 rfl) ?_
        refine k0 ?_
        repeat' ((conv => whnf); (first | refine jA fun _ => ?_ | refine jB fun _ => ?_ | refine kC (fun _ => ?_) fun _ => ?_ | (apply cx60; refine kl tx60 ?_) | (apply cx51; refine kl tx51 ?_) | (apply cx109; refine kl tx109 ?_) | (apply cx110; refine kl tx110 ?_) | (apply cx115; refine kl tx115 ?_) | refine jst ?_ | exact ⟨rfl, rfl⟩ | exact jV | fail))
        conv => whnf
        refine k0 ?_
        repeat' ((conv => whnf); (first | refine jA fun _ => ?_ | refine jB fun _ => ?_ | refine kC (fun _ => ?_) fun _ => ?_ | (apply cx60; refine kl tx60 ?_) | (apply cx51; refine kl tx51 ?_) | (apply cx109; refine kl tx109 ?_) | (apply cx110; refine kl tx110 ?_) | (apply cx115; refine kl tx115 ?_) | refine jst ?_ | exact ⟨rfl, rfl⟩ | exact jV | fail))
        conv => whnf
        refine k0 ?_
        repeat' ((conv => whnf); (first | refine jA fun _ => ?_ | refine jB fun _ => ?_ | refine kC (fun _ => ?_) fun _ => ?_ | (apply cx60; refine kl tx60 ?_) | (apply cx51; refine kl tx51 ?_) | (apply cx109; refine kl tx109 ?_) | (apply cx110; refine kl tx110 ?_) | (apply cx115; refine kl tx115 ?_) | refine jst ?_ | exact ⟨rfl, rfl⟩ | exact jV | fail))
        conv => whnf
        refine k0 ?_
        repeat' ((conv => whnf); (first | refine jA fun _ => ?_ | refine jB fun _ => ?_ | refine kC (fun _ => ?_) fun _ => ?_ | (apply cx60; refine kl tx60 ?_) | (apply cx51; refine kl tx51 ?_) | (apply cx109; refine kl tx109 ?_) | (apply cx110; refine kl tx110 ?_) | (apply cx115; refine kl tx115 ?_) | refine jst ?_ | exact ⟨rfl, rfl⟩ | exact jV | fail))
        conv => whnf
        refine k0 ?_
        repeat' ((conv => whnf); (first | (apply cx109; refine kl (tx109 (d := (⟨secs, cache, ops, faults, false⟩ : Dsk))) ?_) | refine jA fun _ => ?_ | refine jB fun _ => ?_ | refine kC (fun _ => ?_) fun _ => ?_ | (apply cx60; refine kl tx60 ?_) | (apply cx51; refine kl tx51 ?_) | (apply cx109; refine kl tx109 ?_) | (apply cx110; refine kl tx110 ?_) | (apply cx115; refine kl tx115 ?_) | refine jst ?_ | exact ⟨rfl, rfl⟩ | exact jV | fail))
        · conv => whnf
          refine k0 ?_
          repeat' ((conv => whnf); (first | refine jA fun _ => ?_ | refine jB fun _ => ?_ | refine kC (fun _ => ?_) fun _ => ?_ | (apply cx60; refine kl tx60 ?_) | (apply cx51; refine kl tx51 ?_) | (apply cx109; refine kl tx109 ?_) | (apply cx110; refine kl tx110 ?_) | (apply cx115; refine kl tx115 ?_) | refine jst ?_ | exact ⟨rfl, rfl⟩ | exact jV | fail))
          conv => whnf
          refine k0 ?_
          repeat' ((conv => whnf); (first | refine jA fun _ => ?_ | refine jB fun _ => ?_ | refine kC (fun _ => ?_) fun _ => ?_ | (apply cx60; refine kl tx60 ?_) | (apply cx51; refine kl tx51 ?_) | (apply cx109; refine kl tx109 ?_) | (apply cx110; refine kl tx110 ?_) | (apply cx115; refine kl tx115 ?_) | refine jst ?_ | exact ⟨rfl, rfl⟩ | exact jV | fail))
          conv => whnf
          refine k0 ?_
          repeat' ((conv => whnf); (first | (apply cx110; refine kl (tx110 (d := (⟨secs, cache, ops + 1, faults, false⟩ : Dsk)) (f := (fltD ⟨secs, cache, ops, faults, false⟩).getD ⟨0, 0, 0⟩)) ?_) | refine jA fun _ => ?_ | refine jB fun _ => ?_ | refine kC (fun _ => ?_) fun _ => ?_ | (apply cx60; refine kl tx60 ?_) | (apply cx51; refine kl tx51 ?_) | (apply cx109; refine kl tx109 ?_) | (apply cx110; refine kl tx110 ?_) | (apply cx115; refine kl tx115 ?_) | refine jst ?_ | exact ⟨rfl, rfl⟩ | exact jV | fail))
          conv => whnf
          refine bstep (w_outE 6 [] (losD (⟨secs, cache, ops + 1, faults, false⟩ : Dsk) ((fltD ⟨secs, cache, ops, faults, false⟩).getD ⟨0, 0, 0⟩)).secs [slE true (losD (⟨secs, cache, ops + 1, faults, false⟩ : Dsk) ((fltD ⟨secs, cache, ops, faults, false⟩).getD ⟨0, 0, 0⟩)).cache, i6 (losD (⟨secs, cache, ops + 1, faults, false⟩ : Dsk) ((fltD ⟨secs, cache, ops, faults, false⟩).getD ⟨0, 0, 0⟩)).ops, slE true (losD (⟨secs, cache, ops + 1, faults, false⟩ : Dsk) ((fltD ⟨secs, cache, ops, faults, false⟩).getD ⟨0, 0, 0⟩)).faults, b1 (losD (⟨secs, cache, ops + 1, faults, false⟩ : Dsk) ((fltD ⟨secs, cache, ops, faults, false⟩).getD ⟨0, 0, 0⟩)).down] 1) ?_
          refine bstep (w_outE 6 [_] (losD (⟨secs, cache, ops + 1, faults, false⟩ : Dsk) ((fltD ⟨secs, cache, ops, faults, false⟩).getD ⟨0, 0, 0⟩)).cache [i6 (losD (⟨secs, cache, ops + 1, faults, false⟩ : Dsk) ((fltD ⟨secs, cache, ops, faults, false⟩).getD ⟨0, 0, 0⟩)).ops, slE true (losD (⟨secs, cache, ops + 1, faults, false⟩ : Dsk) ((fltD ⟨secs, cache, ops, faults, false⟩).getD ⟨0, 0, 0⟩)).faults, b1 (losD (⟨secs, cache, ops + 1, faults, false⟩ : Dsk) ((fltD ⟨secs, cache, ops, faults, false⟩).getD ⟨0, 0, 0⟩)).down] 2) ?_
          refine bstep (w_outE 6 [_, _, i6 (losD (⟨secs, cache, ops + 1, faults, false⟩ : Dsk) ((fltD ⟨secs, cache, ops, faults, false⟩).getD ⟨0, 0, 0⟩)).ops] (losD (⟨secs, cache, ops + 1, faults, false⟩ : Dsk) ((fltD ⟨secs, cache, ops, faults, false⟩).getD ⟨0, 0, 0⟩)).faults [b1 (losD (⟨secs, cache, ops + 1, faults, false⟩ : Dsk) ((fltD ⟨secs, cache, ops, faults, false⟩).getD ⟨0, 0, 0⟩)).down] 3) ?_
          repeat' ((conv => whnf); (first | refine k0 ?_ | refine jA fun _ => ?_ | refine jB fun _ => ?_ | refine kC (fun _ => ?_) fun _ => ?_ | (apply cx60; refine kl tx60 ?_) | (apply cx51; refine kl tx51 ?_) | (apply cx109; refine kl tx109 ?_) | (apply cx110; refine kl tx110 ?_) | (apply cx115; refine kl tx115 ?_) | refine jst ?_ | exact ⟨rfl, rfl⟩ | exact jV | fail))
          obtain ⟨f, hf⟩ := Option.isSome_iff_exists.1 ‹(fltD _).isSome = true›
          exact ⟨by rw [fsD_y hA1, flD_f hno hf, hf]; rfl, rfl⟩
        · have hf : fltD (⟨secs, cache, ops, faults, false⟩ : Dsk) = none := by
            cases h : fltD (⟨secs, cache, ops, faults, false⟩ : Dsk) with
            | none => rfl
            | some f => have := ‹(fltD _).isSome = false›; rw [h] at this; cases this
          conv => whnf
          refine k0 ?_
          repeat' ((conv => whnf); (first | refine jA fun _ => ?_ | refine jB fun _ => ?_ | refine kC (fun _ => ?_) fun _ => ?_ | (apply cx60; refine kl tx60 ?_) | (apply cx51; refine kl tx51 ?_) | (apply cx109; refine kl tx109 ?_) | (apply cx110; refine kl tx110 ?_) | (apply cx115; refine kl tx115 ?_) | refine jst ?_ | exact ⟨rfl, rfl⟩ | exact jV | fail))
          conv => whnf
          refine k0 ?_
          repeat' ((conv => whnf); (first | refine jA fun _ => ?_ | refine jB fun _ => ?_ | refine kC (fun _ => ?_) fun _ => ?_ | (apply cx60; refine kl tx60 ?_) | (apply cx51; refine kl tx51 ?_) | (apply cx109; refine kl tx109 ?_) | (apply cx110; refine kl tx110 ?_) | (apply cx115; refine kl tx115 ?_) | refine jst ?_ | exact ⟨rfl, rfl⟩ | exact jV | fail))
          conv => whnf
          refine k0 ?_
          repeat' ((conv => whnf); (first | refine jA fun _ => ?_ | refine jB fun _ => ?_ | refine kC (fun _ => ?_) fun _ => ?_ | (apply cx60; refine kl tx60 ?_) | (apply cx51; refine kl tx51 ?_) | (apply cx109; refine kl tx109 ?_) | (apply cx110; refine kl tx110 ?_) | (apply cx115; refine kl tx115 ?_) | refine jst ?_ | exact ⟨rfl, rfl⟩ | exact jV | fail))
          conv => whnf
          refine k0 ?_
          repeat' ((conv => whnf); (first | (apply cx115; refine kl (tx115 (o := true) (d := (⟨secs, cache, ops + 1, faults, false⟩ : Dsk))) ?_) | refine jA fun _ => ?_ | refine jB fun _ => ?_ | refine kC (fun _ => ?_) fun _ => ?_ | (apply cx60; refine kl tx60 ?_) | (apply cx51; refine kl tx51 ?_) | (apply cx109; refine kl tx109 ?_) | (apply cx110; refine kl tx110 ?_) | (apply cx115; refine kl tx115 ?_) | refine jst ?_ | exact ⟨rfl, rfl⟩ | exact jV | fail))
          conv => whnf
          refine bstep (w_outE 6 [] (⟨stl secs cache, [], ops + 1, faults, false⟩ : Dsk).secs [slE true (⟨stl secs cache, [], ops + 1, faults, false⟩ : Dsk).cache, i6 (⟨stl secs cache, [], ops + 1, faults, false⟩ : Dsk).ops, slE true (⟨stl secs cache, [], ops + 1, faults, false⟩ : Dsk).faults, b1 (⟨stl secs cache, [], ops + 1, faults, false⟩ : Dsk).down] 1) ?_
          refine bstep (w_outE 6 [_] (⟨stl secs cache, [], ops + 1, faults, false⟩ : Dsk).cache [i6 (⟨stl secs cache, [], ops + 1, faults, false⟩ : Dsk).ops, slE true (⟨stl secs cache, [], ops + 1, faults, false⟩ : Dsk).faults, b1 (⟨stl secs cache, [], ops + 1, faults, false⟩ : Dsk).down] 2) ?_
          refine bstep (w_outE 6 [_, _, i6 (⟨stl secs cache, [], ops + 1, faults, false⟩ : Dsk).ops] (⟨stl secs cache, [], ops + 1, faults, false⟩ : Dsk).faults [b1 (⟨stl secs cache, [], ops + 1, faults, false⟩ : Dsk).down] 3) ?_
          repeat' ((conv => whnf); (first | refine k0 ?_ | refine jA fun _ => ?_ | refine jB fun _ => ?_ | refine kC (fun _ => ?_) fun _ => ?_ | (apply cx60; refine kl tx60 ?_) | (apply cx51; refine kl tx51 ?_) | (apply cx109; refine kl tx109 ?_) | (apply cx110; refine kl tx110 ?_) | (apply cx115; refine kl tx115 ?_) | refine jst ?_ | exact ⟨rfl, rfl⟩ | exact jV | fail))
          exact ⟨by rw [fsD_y hA1, flD_n hno hf]; rfl, rfl⟩
  · repeat' ((conv => whnf); (first | refine k0 ?_ | refine jA fun _ => ?_ | refine jB fun _ => ?_ | refine kC (fun _ => ?_) fun _ => ?_ | (apply cx60; refine kl tx60 ?_) | (apply cx51; refine kl tx51 ?_) | (apply cx109; refine kl tx109 ?_) | (apply cx110; refine kl tx110 ?_) | (apply cx115; refine kl tx115 ?_) | refine jst ?_ | exact ⟨rfl, rfl⟩ | exact jV | fail))
    all_goals first
      | exact ⟨by rw [fsD_n hA1]; rfl, rfl⟩
      | exact (hA1 (dskOk_iff.1 ‹dskOk _ = true›)).elim

theorem cx64 {P : Program} {X : FuncId → List Arg → List (Bool × List Cell) → List (Option (List Cell)) → Prop} {a : List Arg} {Q : List (Bool × List Cell) → List (Option (List Cell)) → Prop} (h : ∃ b vals outs, a = b ∧ D P X (.call 64 b vals outs) ∧ Q vals outs) : CallS P X 64 a Q := ⟨h⟩

end Go.Proofs.YtkggnekdjdnhiaaGreat
