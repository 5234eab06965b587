/- Functions of the program, each with what it gives back. -/
import Derived.Test.YtmphoefccibibaaKe
import Derived.Test.YtmphoefccibibaaChecked
import Derived.IntWalk
import Derived.Test.YtmphoefccibibaaDe
namespace Go.Proofs.Ytmphoefccibibaa
open Go Go.RowKit Go.IntWalk
open Enc (sz cs)
attribute [local irreducible] IntKind.wrap

theorem bdC_ok {c : Cur} {b : List UInt8} (h : CurOk c) : CurOk (bdC c b).2 := by
  have h5 := blC_ok (n := 5) h
  by_cases h0 : b.length = 0
  · rw [bdC_e h0]; exact h
  by_cases c0 : (blC c 5).1 = 0
  · rw [bdC_0 h0 c0]; exact inC_ok (blC_ok h5)
  by_cases c1 : (blC c 5).1 = 1
  · rw [bdC_1 h0 c1]; exact h5
  by_cases c2 : (blC c 5).1 = 2
  · rw [bdC_2 h0 c2]; exact blC_ok h5
  rw [bdC_3 h0 c0 c1 c2]; exact h5
theorem bdC_len {c : Cur} {b : List UInt8} : (bdC c b).1.length ≤ b.length + 1 := by
  by_cases h0 : b.length = 0
  · rw [bdC_e h0]; exact Nat.le_succ _
  by_cases c0 : (blC c 5).1 = 0
  · rw [bdC_0 h0 c0]; simp only [List.length_set]; omega
  by_cases c1 : (blC c 5).1 = 1
  · rw [bdC_1 h0 c1]; simp only [List.length_append, List.length_singleton]; omega
  by_cases c2 : (blC c 5).1 = 2
  · rw [bdC_2 h0 c2]; simp only [List.length_take]; omega
  rw [bdC_3 h0 c0 c1 c2]; exact Nat.le_succ _
/-- A drawn new disk. -/
def ddC (b : List UInt8) : Int × List Fau :=
  if (blC (ftC (nwC b)).2 6).1 = 0 then
    ((inC (inC (inC (blC (ftC (nwC b)).2 6).2 [0, 99, 100001]).2 [-1, 0, 257]).2 [4, 7, 48, 3, 49]).1, (ftC (nwC b)).1 ++ [⟨(inC (blC (ftC (nwC b)).2 6).2 [0, 99, 100001]).1, 0, (inC (inC (blC (ftC (nwC b)).2 6).2 [0, 99, 100001]).2 [-1, 0, 257]).1⟩])
  else ((inC (blC (ftC (nwC b)).2 6).2 [4, 7, 48, 3, 49]).1, (ftC (nwC b)).1)
theorem ddC_y {b : List UInt8} (h : (blC (ftC (nwC b)).2 6).1 = 0) : ddC b = ((inC (inC (inC (blC (ftC (nwC b)).2 6).2 [0, 99, 100001]).2 [-1, 0, 257]).2 [4, 7, 48, 3, 49]).1, (ftC (nwC b)).1 ++ [⟨(inC (blC (ftC (nwC b)).2 6).2 [0, 99, 100001]).1, 0, (inC (inC (blC (ftC (nwC b)).2 6).2 [0, 99, 100001]).2 [-1, 0, 257]).1⟩]) := if_pos h
theorem ddC_n {b : List UInt8} (h : ¬ (blC (ftC (nwC b)).2 6).1 = 0) : ddC b = ((inC (blC (ftC (nwC b)).2 6).2 [4, 7, 48, 3, 49]).1, (ftC (nwC b)).1) := if_neg h
theorem ddC_len {b : List UInt8} : (ddC b).2.length ≤ 4 := by
  have h := ftC_len (c := nwC b)
  by_cases h0 : (blC (ftC (nwC b)).2 6).1 = 0
  · rw [ddC_y h0]; simp only [List.length_append, List.length_singleton]; omega
  · rw [ddC_n h0]; simp only; omega
attribute [local irreducible] byC blC inC bysC smC ftC nwC

set_option maxRecDepth 100000 in
theorem tx24 {b : List UInt8} (hb : b.length ≤ 1048576 := by first | assumption | omega | (simp; done) | (simp; omega)) : T 24 [aE b] [vI (ddC b).1, vE (ddC b).2] [none] := by
  refine w_call md [] Try.func24 rfl ?_
  have h1 := nwC_ok hb
  have h2 := ftC_ok h1
  have h3 := blC_ok (n := 6) h2
  have hfl := ftC_len (c := nwC b)
  by_cases h0 : (blC (ftC (nwC b)).2 6).1 = 0
  · rw [ddC_y h0]
    have h4 := inC_ok (l := [0, 99, 100001]) h3
    have h5 := inC_ok (l := [-1, 0, 257]) h4
    have hO : T 17 [aC (ftC (nwC b)).2, aI 6] [vB true] [some (cuC (blC (ftC (nwC b)).2 6).2), none] := by
      have h := tx17 (c := (ftC (nwC b)).2) (n := 6) h2 (by decide)
      rwa [decide_eq_true h0] at h
    repeat' ((conv => whnf); (first | (apply cx13; refine kl (tx13 (b := b)) ?_) | (apply cx41; refine kl (tx41 (c := nwC b)) ?_) | (apply cx17; refine kl (hO) ?_) | (apply cx31; refine kl (tx31 (c := (blC (ftC (nwC b)).2 6).2) (l := [0, 99, 100001])) ?_) | (apply cx31; refine kl (tx31 (c := (inC (blC (ftC (nwC b)).2 6).2 [0, 99, 100001]).2) (l := [-1, 0, 257])) ?_) | (apply cx31; refine kl (tx31 (c := (inC (inC (blC (ftC (nwC b)).2 6).2 [0, 99, 100001]).2 [-1, 0, 257]).2) (l := [4, 7, 48, 3, 49])) ?_) | refine And.intro ⟨rfl, rfl, rfl⟩ ?_ | refine jap (N := cs true ([⟨(inC (blC (ftC (nwC b)).2 6).2 [0, 99, 100001]).1, 0, (inC (inC (blC (ftC (nwC b)).2 6).2 [0, 99, 100001]).2 [-1, 0, 257]).1⟩] : List Fau)) (apE ?_) | refine k0 ?_ | refine jA fun _ => ?_ | refine jB fun _ => ?_ | refine kC (fun _ => ?_) fun _ => ?_ | refine jS ?_ | refine jI ?_ | (apply cx13; refine kl tx13 ?_) | (apply cx41; refine kl tx41 ?_) | (apply cx17; refine kl tx17 ?_) | (apply cx31; refine kl tx31 ?_) | refine jD ?_ | refine ⟨snc, _, snr, ?_⟩ | refine ⟨⟨Nat.le_refl _, rfl⟩, [], rfl, ?_⟩ | refine And.intro ⟨rfl, rfl, by decide, rfl⟩ ?_ | refine jP ?_ | refine jO ?_ | refine jX ?_ | refine jb jr ?_ | refine jb ofs ?_ | refine ko jc ?_ | refine ko jp ?_ | refine jM ?_ | refine kr ?_ | refine ko rfl ?_ | refine And.intro (cs_shal _) ?_ | refine And.intro (rfl : List.all _ _ = true) ?_ | refine And.intro ⟨rfl, (rfl : List.all _ _ = true)⟩ ?_ | exact ⟨rfl, rfl⟩ | exact jV | fail))
  · rw [ddC_n h0]
    have hO : T 17 [aC (ftC (nwC b)).2, aI 6] [vB false] [some (cuC (blC (ftC (nwC b)).2 6).2), none] := by
      have h := tx17 (c := (ftC (nwC b)).2) (n := 6) h2 (by decide)
      rwa [decide_eq_false h0] at h
    repeat' ((conv => whnf); (first | (apply cx13; refine kl (tx13 (b := b)) ?_) | (apply cx41; refine kl (tx41 (c := nwC b)) ?_) | (apply cx17; refine kl (hO) ?_) | (apply cx31; refine kl (tx31 (c := (blC (ftC (nwC b)).2 6).2) (l := [4, 7, 48, 3, 49])) ?_) | refine And.intro ⟨rfl, rfl, rfl⟩ ?_ | refine k0 ?_ | refine jA fun _ => ?_ | refine jB fun _ => ?_ | refine kC (fun _ => ?_) fun _ => ?_ | refine jS ?_ | refine jI ?_ | (apply cx13; refine kl tx13 ?_) | (apply cx41; refine kl tx41 ?_) | (apply cx17; refine kl tx17 ?_) | (apply cx31; refine kl tx31 ?_) | refine jD ?_ | refine ⟨snc, _, snr, ?_⟩ | refine ⟨⟨Nat.le_refl _, rfl⟩, [], rfl, ?_⟩ | refine And.intro ⟨rfl, rfl, by decide, rfl⟩ ?_ | refine jP ?_ | refine jO ?_ | refine jX ?_ | refine jb jr ?_ | refine jb ofs ?_ | refine ko jc ?_ | refine ko jp ?_ | refine jM ?_ | refine kr ?_ | refine ko rfl ?_ | refine And.intro (cs_shal _) ?_ | refine And.intro (rfl : List.all _ _ = true) ?_ | refine And.intro ⟨rfl, (rfl : List.all _ _ = true)⟩ ?_ | exact ⟨rfl, rfl⟩ | exact jV | fail))

theorem cx24 {P : Program} {X : FuncId → List Arg → List (Bool × List Cell) → List (Option (List Cell)) → Prop} {a : List Arg} {Q : List (Bool × List Cell) → List (Option (List Cell)) → Prop} (h : ∃ b vals outs, a = b ∧ D P X (.call 24 b vals outs) ∧ Q vals outs) : CallS P X 24 a Q := ⟨h⟩

set_option maxRecDepth 100000 in
theorem tx9 {b : List UInt8} (hb : b.length ≤ 1048576 := by first | assumption | omega | (simp; done) | (simp; omega)) : T 9 [aE b] [vI (ddC b).1, vE (ddC b).2] [none] := by
  refine w_call md [] Try.func9 rfl ?_
  repeat' ((conv => whnf); (first | (apply cx24; refine kl (tx24 (b := b)) ?_) | refine k0 ?_ | refine jA fun _ => ?_ | refine jB fun _ => ?_ | refine kC (fun _ => ?_) fun _ => ?_ | refine jS ?_ | refine jI ?_ | (apply cx24; refine kl tx24 ?_) | refine jD ?_ | refine ⟨snc, _, snr, ?_⟩ | refine ⟨⟨Nat.le_refl _, rfl⟩, [], rfl, ?_⟩ | refine And.intro ⟨rfl, rfl, by decide, rfl⟩ ?_ | refine jP ?_ | refine jO ?_ | refine jX ?_ | refine jb jr ?_ | refine jb ofs ?_ | refine ko jc ?_ | refine ko jp ?_ | refine jM ?_ | refine kr ?_ | refine ko rfl ?_ | refine And.intro (cs_shal _) ?_ | refine And.intro (rfl : List.all _ _ = true) ?_ | refine And.intro ⟨rfl, (rfl : List.all _ _ = true)⟩ ?_ | exact ⟨rfl, rfl⟩ | exact jV | fail))

theorem cx9 {P : Program} {X : FuncId → List Arg → List (Bool × List Cell) → List (Option (List Cell)) → Prop} {a : List Arg} {Q : List (Bool × List Cell) → List (Option (List Cell)) → Prop} (h : ∃ b vals outs, a = b ∧ D P X (.call 9 b vals outs) ∧ Q vals outs) : CallS P X 9 a Q := ⟨h⟩

/-! ### The two roots of a drawn disk -/
attribute [local irreducible] bdC mtC ptM
/-- A drawn root's bytes; are they the call's own? -/
noncomputable def sbC (c : Cur) : (List UInt8 × Bool) × Cur :=
  if (blC (mtC c).2 4).1 = 0 then (((bdC (blC (mtC c).2 4).2 (ptM (mtC c).1)).1, false), (bdC (blC (mtC c).2 4).2 (ptM (mtC c).1)).2) else ((ptM (mtC c).1, true), (blC (mtC c).2 4).2)
theorem sbC_y {c : Cur} (h : (blC (mtC c).2 4).1 = 0) : sbC c = (((bdC (blC (mtC c).2 4).2 (ptM (mtC c).1)).1, false), (bdC (blC (mtC c).2 4).2 (ptM (mtC c).1)).2) := if_pos h
theorem sbC_n {c : Cur} (h : ¬ (blC (mtC c).2 4).1 = 0) : sbC c = ((ptM (mtC c).1, true), (blC (mtC c).2 4).2) := if_neg h
theorem sbC_ok {c : Cur} (h : CurOk c) : CurOk (sbC c).2 := by
  by_cases h0 : (blC (mtC c).2 4).1 = 0
  · rw [sbC_y h0]; exact bdC_ok (blC_ok (mtC_ok h))
  · rw [sbC_n h0]; exact blC_ok (mtC_ok h)
theorem sbC_len {c : Cur} : (sbC c).1.1.length ≤ 257 := by
  have hp := ptM_256 (mtC c).1
  by_cases h0 : (blC (mtC c).2 4).1 = 0
  · rw [sbC_y h0]
    have := bdC_len (c := (blC (mtC c).2 4).2) (b := ptM (mtC c).1)
    simp only; omega
  · rw [sbC_n h0]; simp only; omega
noncomputable def sbI (c : Cur) : Nat → List (List UInt8 × Bool) × Cur
  | 0 => ([], c)
  | n + 1 => ((sbI c n).1 ++ [(sbC (sbI c n).2).1], (sbC (sbI c n).2).2)
theorem sbI_ok {c : Cur} (h : CurOk c) : ∀ {n : Nat}, CurOk (sbI c n).2 ∧ (sbI c n).1.length = n ∧ ∀ p ∈ (sbI c n).1, p.1.length ≤ 257
  | 0 => ⟨h, rfl, fun p hp => by cases hp⟩
  | n + 1 => by
    have ih := sbI_ok h (n := n)
    refine ⟨sbC_ok ih.1, by simp only [sbI, List.length_append, List.length_singleton]; rw [ih.2.1], fun p hp => ?_⟩
    rcases List.mem_append.1 hp with hp | hp
    · exact ih.2.2 p hp
    · obtain rfl := List.mem_singleton.1 hp
      exact sbC_len
/-- The sectors' cells. -/
def sbL (l : List (List UInt8 × Bool)) : List Cell := l.map fun p => slE p.2 p.1
theorem sbL_len {l : List (List UInt8 × Bool)} : (sbL l).length = l.length := List.length_map _
theorem sbL_shal : ∀ {l : List (List UInt8 × Bool)}, (sbL l).all Cell.shal = true
  | [] => rfl
  | p :: l => by
    show (Cell.shal (slE p.2 p.1) && (sbL l).all Cell.shal) = true
    rw [sbL_shal]; rfl
theorem sbL_clo : ∀ {l : List (List UInt8 × Bool)}, closedL (sbL l) = true
  | [] => rfl
  | p :: l => clo_sl sbL_clo
theorem closedL_app : ∀ {a b : List Cell}, closedL a = true → closedL b = true → closedL (a ++ b) = true
  | [], b, _, h => h
  | x :: a, b, h1, h2 => by
    simp only [closedL, Bool.and_eq_true] at h1
    show (x.closed && closedL (a ++ b)) = true
    rw [h1.1, closedL_app h1.2 h2]; rfl
theorem sbL_ro : ∀ {l : List (List UInt8 × Bool)}, roifyL (sbL l) = cs false (l.map (·.1))
  | [] => rfl
  | p :: l => by
    show Cell.sl false p.1.length 1 (roifyL (cs p.2 p.1)) :: roifyL (sbL l) = _
    rw [cs_ro, sbL_ro]
    exact (cs_cons (o := false) p.1 (l.map (·.1))).symm
theorem sb_ro {l : List (List UInt8 × Bool)} {r : List (List UInt8)} : roifyL (sbL l ++ cs true r) = cs false (l.map (·.1) ++ r) := by
  rw [roifyL_append, sbL_ro, cs_ro, Enc.app]
theorem sb_put2 {l : List (List UInt8 × Bool)} {r : List Cell} {i : Nat} {x y : Cell} (h : l.length = i) : put (sbL l ++ [y] ++ r) (i * 1) [x] = some (sbL l ++ [x] ++ r) :=
  put_mid (A := sbL l) (M := [y]) (C := r) (p := i * 1) (off := 0) (by rw [sbL_len]; omega) rfl
theorem sb_put {l : List (List UInt8 × Bool)} {r : List (List UInt8)} {i : Nat} {x : Cell} (h : l.length = i) (hr : i < r.length) : put (sbL l ++ cs true (r.drop i)) (i * 1) [x] = some (sbL l ++ [x] ++ cs true (r.drop (i + 1))) := by
  rw [List.drop_eq_getElem_cons hr, cs_cons, ← List.append_assoc]
  exact sb_put2 h
theorem sb_cut {l : List (List UInt8 × Bool)} {r : List Cell} {i : Nat} {y : Cell} (h : l.length = i) : cut (sbL l ++ [y] ++ r) (i * 1) 1 = some [y] :=
  (cut_mid (A := sbL l) (M := [y]) (C := r) (p := i * 1) (off := 0) (by rw [sbL_len]; omega) (by simp)).trans rfl
theorem sb_suc {c : Cur} {n : Nat} {r : List Cell} : sbL (sbI c (n + 1)).1 ++ r = sbL (sbI c n).1 ++ [slE (sbC (sbI c n).2).1.2 (sbC (sbI c n).2).1.1] ++ r := by
  simp only [sbI, sbL, List.map_append, List.map_cons, List.map_nil]
/-- A disk with two drawn roots. -/
noncomputable def bmD (b : List UInt8) : Dsk := { (anD (nwC b)).1 with secs := (sbI (anD (nwC b)).2 2).1.map (·.1) ++ (anD (nwC b)).1.secs.drop 2 }
theorem bmD_ok {b : List UInt8} (hb : b.length ≤ 1048576) : AnOk (bmD b, nwC b) := by
  have h1 := nwC_ok hb
  have h := anD_ok h1
  have hs := sbI_ok h.cur (n := 2)
  refine ⟨h1, ?_, h.cache, h.faults, fun x hx => ?_, h.wri⟩
  · have := h.secs
    simp only [bmD, List.length_append, List.length_map, List.length_drop]
    rw [hs.2.1]; omega
  · rcases List.mem_append.1 hx with hx | hx
    · obtain ⟨p, hp, rfl⟩ := List.mem_map.1 hx
      exact hs.2.2 p hp
    · exact h.sec x (List.mem_of_mem_drop hx)
theorem snN {α : Type} [Enc α] {o : Bool} {xs : List α} {n : Nat} (h : xs.length = n) : 0 + n * sz α ≤ (cs o xs).length ∧ (((cs o xs).drop 0).take (n * sz α)).all Cell.shal = true := by
  subst h
  exact ⟨by rw [cs_len]; omega, by rw [cs_whole]; exact cs_shal _⟩
theorem csN {α : Type} [Enc α] {o : Bool} {xs : List α} {n : Nat} (h : xs.length = n) : ((cs o xs).drop 0).take (n * sz α) = cs o xs := by subst h; exact cs_whole
attribute [local irreducible] anD sbC

set_option maxHeartbeats 2000000 in
set_option maxRecDepth 100000 in
theorem tx5 {b : List UInt8} (hb : b.length ≤ 1048576 := by first | assumption | omega | (simp; done) | (simp; omega)) : T 5 [aE b] [(true, dskC false (bmD b))] [none] := by
  refine w_call md [] Try.func5 rfl ?_
  have h1 := nwC_ok hb
  have ha := anD_ok h1
  unfold bmD
  obtain ⟨⟨d, c0⟩, hq⟩ : ∃ q, anD (nwC b) = q := ⟨_, rfl⟩
  have hC : T 14 [aC (nwC b)] [(true, dskC true d)] [some (cuC c0)] := by
    have h := tx14 (c := nwC b)
    rw [hq] at h; exact h
  rw [hq] at ha ⊢
  have hs := ha.secs
  have hc0 := ha.cur
  simp only at hs hc0 ⊢
  repeat' ((conv => whnf); (first | (apply cx13; refine kl (tx13 (b := b)) ?_) | (apply cx14; refine kl (hC) ?_) | refine k0 ?_ | refine jA fun _ => ?_ | refine jB fun _ => ?_ | refine kC (fun _ => ?_) fun _ => ?_ | refine jS ?_ | refine jI ?_ | (apply cx13; refine kl tx13 ?_) | (apply cx14; refine kl tx14 ?_) | (apply cx16; refine kl tx16 ?_) | (apply cx15; refine kl tx15 ?_) | (apply cx17; refine kl tx17 ?_) | (apply cx18; refine kl tx18 ?_) | refine jD ?_ | refine ⟨snc, _, snr, ?_⟩ | refine ⟨⟨Nat.le_refl _, rfl⟩, [], rfl, ?_⟩ | refine And.intro ⟨rfl, rfl, by decide, rfl⟩ ?_ | refine jP ?_ | refine jO ?_ | refine jX ?_ | refine jb jr ?_ | refine jb ofs ?_ | refine ko jc ?_ | refine ko jp ?_ | refine jM ?_ | refine kr ?_ | refine ko rfl ?_ | refine And.intro (cs_shal _) ?_ | refine And.intro (rfl : List.all _ _ = true) ?_ | refine And.intro ⟨rfl, (rfl : List.all _ _ = true)⟩ ?_ | exact ⟨rfl, rfl⟩ | exact jV | fail))
  conv => whnf
  refine loopk (ι := Nat) (fun i => i ≤ 2) (fun i => 2 - i) (0) [2, 3, 4] (fun i => [(5, .v false [i6 i])]) [none, none, some fun i => (true, cuC (sbI c0 i).2), some fun i => (true, sbL (sbI c0 i).1 ++ cs true (d.secs.drop i)), none, none, none] ?_
  refine ⟨by omega, ?_, fun i hi => ?_⟩
  · exact w_autoX [6] (by (conv => whnf); exact And.intro (by kernel_rfl) (And.intro (by kernel_rfl) (by repeat' (first | (with_reducible exact rfl) | ((conv => whnf); first | exact trivial | exact (closedL_app sbL_clo (cs_clo _)) | exact rfl | exact tvi (by first | omega | (dsimp only; omega) | (simp; done)) | exact tvr (by first | omega | (dsimp only; omega) | (simp; done) | (simp; omega)) | exact ⟨rfl, clo_i, by first | rfl | rw [List.take_length] | assumption⟩ | refine And.intro ?_ ?_)))))
  · obtain ⟨hk, hl, _⟩ := sbI_ok hc0 (n := i)
    have k2 := mtC_ok hk
    have k3 := blC_ok (n := 4) k2
    have hp := ptM_256 (mtC (sbI c0 i).2).1
    repeat' ((conv => whnf); (first | refine k0 ?_ | refine jS ?_ | refine jI ?_ | (apply cx13; refine kl tx13 ?_) | (apply cx14; refine kl tx14 ?_) | (apply cx16; refine kl tx16 ?_) | (apply cx15; refine kl tx15 ?_) | (apply cx17; refine kl tx17 ?_) | (apply cx18; refine kl tx18 ?_) | refine jD ?_ | refine ⟨snc, _, snr, ?_⟩ | refine ⟨⟨Nat.le_refl _, rfl⟩, [], rfl, ?_⟩ | refine And.intro ⟨rfl, rfl, by decide, rfl⟩ ?_ | refine jP ?_ | refine jO ?_ | refine jX ?_ | refine jb jr ?_ | refine jb ofs ?_ | refine ko jc ?_ | refine ko jp ?_ | refine jM ?_ | refine kr ?_ | refine ko rfl ?_ | refine And.intro (cs_shal _) ?_ | refine And.intro (rfl : List.all _ _ = true) ?_ | refine And.intro ⟨rfl, (rfl : List.all _ _ = true)⟩ ?_ | exact ⟨rfl, rfl⟩ | exact jV | fail))
    conv => whnf
    refine ⟨fun hlt => ?_, fun hge => ?_⟩
    · by_cases h4 : (blC (mtC (sbI c0 i).2).2 4).1 = 0
      · have hO : T 17 [aC (mtC (sbI c0 i).2).2, aI 4] [vB true] [some (cuC (blC (mtC (sbI c0 i).2).2 4).2), none] := by
          have h := tx17 (c := (mtC (sbI c0 i).2).2) (n := 4) k2 (by decide)
          rwa [decide_eq_true h4] at h
        have e2 : sbL (sbI c0 (i + 1)).1 ++ cs true (d.secs.drop (i + 1)) = sbL (sbI c0 i).1 ++ [slE false (bdC (blC (mtC (sbI c0 i).2).2 4).2 (ptM (mtC (sbI c0 i).2).1)).1] ++ cs true (d.secs.drop (i + 1)) := by rw [sb_suc, sbC_y h4]
        have e3 : (sbI c0 (i + 1)).2 = (bdC (blC (mtC (sbI c0 i).2).2 4).2 (ptM (mtC (sbI c0 i).2).1)).2 := by
          show (sbC (sbI c0 i).2).2 = _
          rw [sbC_y h4]
        repeat' ((conv => whnf); (first | (apply cx16; refine kl (tx16 (c := (sbI c0 i).2)) ?_) | (apply cx15; refine kl (tx15 (m := (mtC (sbI c0 i).2).1)) ?_) | (apply cx17; refine kl (hO) ?_) | (apply cx18; refine kl (tx18 (c := (blC (mtC (sbI c0 i).2).2 4).2) (b := ptM (mtC (sbI c0 i).2).1)) ?_) | refine ko (sb_put hl (by omega)) ?_ | refine ko (sb_cut hl) ?_ | refine ko (sb_put2 hl) ?_ | refine k0 ?_ | refine jA fun _ => ?_ | refine jB fun _ => ?_ | refine kC (fun _ => ?_) fun _ => ?_ | refine jS ?_ | refine jI ?_ | (apply cx13; refine kl tx13 ?_) | (apply cx14; refine kl tx14 ?_) | (apply cx16; refine kl tx16 ?_) | (apply cx15; refine kl tx15 ?_) | (apply cx17; refine kl tx17 ?_) | (apply cx18; refine kl tx18 ?_) | refine jD ?_ | refine ⟨snc, _, snr, ?_⟩ | refine ⟨⟨Nat.le_refl _, rfl⟩, [], rfl, ?_⟩ | refine And.intro ⟨rfl, rfl, by decide, rfl⟩ ?_ | refine jP ?_ | refine jO ?_ | refine jX ?_ | refine jb jr ?_ | refine jb ofs ?_ | refine ko jc ?_ | refine ko jp ?_ | refine jM ?_ | refine kr ?_ | refine ko rfl ?_ | refine And.intro (cs_shal _) ?_ | refine And.intro (rfl : List.all _ _ = true) ?_ | refine And.intro ⟨rfl, (rfl : List.all _ _ = true)⟩ ?_ | exact ⟨rfl, rfl⟩ | exact jV | fail))
        refine ⟨⟨i + 1, by omega⟩, by simp only; omega, ?_⟩
        exact w_autoX [6] (by (conv => whnf); exact And.intro (by kernel_rfl) (And.intro (by kernel_rfl) (by repeat' (first | (with_reducible exact rfl) | ((conv => whnf); first | exact trivial | exact (by rw [e3]; exact ⟨rfl, clo_sl rfl, rfl⟩) | exact (by rw [e2]; exact ⟨rfl, closedL_app (closedL_app sbL_clo (clo_sl rfl)) (cs_clo _), rfl⟩) | exact rfl | exact tvi (by first | omega | (dsimp only; omega) | (simp; done)) | exact tvr (by first | omega | (dsimp only; omega) | (simp; done) | (simp; omega)) | exact ⟨rfl, clo_i, by first | rfl | rw [List.take_length] | assumption⟩ | refine And.intro ?_ ?_)))))
      · have hO : T 17 [aC (mtC (sbI c0 i).2).2, aI 4] [vB false] [some (cuC (blC (mtC (sbI c0 i).2).2 4).2), none] := by
          have h := tx17 (c := (mtC (sbI c0 i).2).2) (n := 4) k2 (by decide)
          rwa [decide_eq_false h4] at h
        have e2 : sbL (sbI c0 (i + 1)).1 ++ cs true (d.secs.drop (i + 1)) = sbL (sbI c0 i).1 ++ [slE true (ptM (mtC (sbI c0 i).2).1)] ++ cs true (d.secs.drop (i + 1)) := by rw [sb_suc, sbC_n h4]
        have e3 : (sbI c0 (i + 1)).2 = (blC (mtC (sbI c0 i).2).2 4).2 := by
          show (sbC (sbI c0 i).2).2 = _
          rw [sbC_n h4]
        repeat' ((conv => whnf); (first | (apply cx16; refine kl (tx16 (c := (sbI c0 i).2)) ?_) | (apply cx15; refine kl (tx15 (m := (mtC (sbI c0 i).2).1)) ?_) | (apply cx17; refine kl (hO) ?_) | refine ko (sb_put hl (by omega)) ?_ | refine k0 ?_ | refine jA fun _ => ?_ | refine jB fun _ => ?_ | refine kC (fun _ => ?_) fun _ => ?_ | refine jS ?_ | refine jI ?_ | (apply cx13; refine kl tx13 ?_) | (apply cx14; refine kl tx14 ?_) | (apply cx16; refine kl tx16 ?_) | (apply cx15; refine kl tx15 ?_) | (apply cx17; refine kl tx17 ?_) | (apply cx18; refine kl tx18 ?_) | refine jD ?_ | refine ⟨snc, _, snr, ?_⟩ | refine ⟨⟨Nat.le_refl _, rfl⟩, [], rfl, ?_⟩ | refine And.intro ⟨rfl, rfl, by decide, rfl⟩ ?_ | refine jP ?_ | refine jO ?_ | refine jX ?_ | refine jb jr ?_ | refine jb ofs ?_ | refine ko jc ?_ | refine ko jp ?_ | refine jM ?_ | refine kr ?_ | refine ko rfl ?_ | refine And.intro (cs_shal _) ?_ | refine And.intro (rfl : List.all _ _ = true) ?_ | refine And.intro ⟨rfl, (rfl : List.all _ _ = true)⟩ ?_ | exact ⟨rfl, rfl⟩ | exact jV | fail))
        refine ⟨⟨i + 1, by omega⟩, by simp only; omega, (w_inE 3 87 (sbL (sbI c0 i).1) (ptM (mtC (sbI c0 i).2).1) (cs true (d.secs.drop (i + 1))) (ptM (mtC (sbI c0 i).2).1).length 1 rfl).trans ?_⟩
        exact w_autoX [6] (by (conv => whnf); exact And.intro (by kernel_rfl) (And.intro (by kernel_rfl) (by repeat' (first | (with_reducible exact rfl) | ((conv => whnf); first | exact trivial | exact (by rw [e3]; exact ⟨rfl, clo_sl rfl, rfl⟩) | exact (by rw [e2]; exact ⟨rfl, closedL_app (closedL_app sbL_clo (clo_sl rfl)) (cs_clo _), rfl⟩) | exact rfl | exact tvi (by first | omega | (dsimp only; omega) | (simp; done)) | exact tvr (by first | omega | (dsimp only; omega) | (simp; done) | (simp; omega)) | exact ⟨rfl, clo_i, by first | rfl | rw [List.take_length] | assumption⟩ | refine And.intro ?_ ?_)))))
    · obtain rfl : i = 2 := by omega
      have hlen : ((sbI c0 2).1.map (·.1) ++ d.secs.drop 2).length = d.secs.length := by
        rw [List.length_append, List.length_map, List.length_drop, hl]; omega
      repeat' ((conv => whnf); (first | refine jA fun _ => ?_ | refine jB fun _ => ?_ | refine kC (fun _ => ?_) fun _ => ?_ | refine jS ?_ | refine jI ?_ | (apply cx13; refine kl tx13 ?_) | (apply cx14; refine kl tx14 ?_) | (apply cx16; refine kl tx16 ?_) | (apply cx15; refine kl tx15 ?_) | (apply cx17; refine kl tx17 ?_) | (apply cx18; refine kl tx18 ?_) | refine jD ?_ | refine ⟨snc, _, snr, ?_⟩ | refine ⟨⟨Nat.le_refl _, rfl⟩, [], rfl, ?_⟩ | refine And.intro ⟨rfl, rfl, by decide, rfl⟩ ?_ | refine jP ?_ | refine jO ?_ | refine jX ?_ | refine jb jr ?_ | refine jb ofs ?_ | refine ko jc ?_ | refine ko jp ?_ | refine jM ?_ | refine kr ?_ | refine ko rfl ?_ | refine And.intro (cs_shal _) ?_ | refine And.intro (rfl : List.all _ _ = true) ?_ | refine And.intro ⟨rfl, (rfl : List.all _ _ = true)⟩ ?_ | exact ⟨rfl, rfl⟩ | exact jV | fail))
      conv => whnf
      refine bstep (w_freeze 3 (cs' := cs false ((sbI c0 2).1.map (·.1) ++ d.secs.drop 2)) rfl sb_ro) ?_
      refine bstep (w_frz 4 d.cache) ?_
      refine bstep (w_frz 5 d.faults) ?_
      repeat' ((conv => whnf); (first | refine ⟨snN hlen, _, csN hlen, ?_⟩ | refine ⟨snc, _, cs_whole, ?_⟩ | refine k0 ?_ | refine jA fun _ => ?_ | refine jB fun _ => ?_ | refine kC (fun _ => ?_) fun _ => ?_ | refine jS ?_ | refine jI ?_ | (apply cx13; refine kl tx13 ?_) | (apply cx14; refine kl tx14 ?_) | (apply cx16; refine kl tx16 ?_) | (apply cx15; refine kl tx15 ?_) | (apply cx17; refine kl tx17 ?_) | (apply cx18; refine kl tx18 ?_) | refine jD ?_ | refine ⟨snc, _, snr, ?_⟩ | refine ⟨⟨Nat.le_refl _, rfl⟩, [], rfl, ?_⟩ | refine And.intro ⟨rfl, rfl, by decide, rfl⟩ ?_ | refine jP ?_ | refine jO ?_ | refine jX ?_ | refine jb jr ?_ | refine jb ofs ?_ | refine ko jc ?_ | refine ko jp ?_ | refine jM ?_ | refine kr ?_ | refine ko rfl ?_ | refine And.intro (cs_shal _) ?_ | refine And.intro (rfl : List.all _ _ = true) ?_ | refine And.intro ⟨rfl, (rfl : List.all _ _ = true)⟩ ?_ | exact ⟨rfl, rfl⟩ | exact jV | fail))
      exact ⟨congrArg (fun m => [(true, [Cell.sl false m 1 (cs false ((sbI c0 2).1.map (·.1) ++ d.secs.drop 2)), slE false d.cache, i6 d.ops, slE false d.faults, b1 d.down])]) hlen.symm, rfl⟩

theorem cx5 {P : Program} {X : FuncId → List Arg → List (Bool × List Cell) → List (Option (List Cell)) → Prop} {a : List Arg} {Q : List (Bool × List Cell) → List (Option (List Cell)) → Prop} (h : ∃ b vals outs, a = b ∧ D P X (.call 5 b vals outs) ∧ Q vals outs) : CallS P X 5 a Q := ⟨h⟩

end Go.Proofs.Ytmphoefccibibaa
