/- Functions of the program, each with what it gives back. -/
import Derived.Test.YtopnaijeicknoaaGreatDoorKe
import Derived.Test.YtopnaijeicknoaaGreatDoorChecked
import Derived.IntWalk
import Derived.Test.YtopnaijeicknoaaGreatDoorMp
namespace Go.Proofs.YtopnaijeicknoaaGreatDoor
open Go Go.RowKit Go.IntWalk
open Enc (sz cs)
attribute [local irreducible] IntKind.wrap

/-! ### Values behind bytes -/
attribute [local irreducible] vlOk bOf ftV fxN vrB escN beB tnB
theorem vlOk_e {v : Vl} (h : vlOk v = true) : v.s.size ≤ 30 ∧ (v.k = 0 ∨ v.k = 1 ∨ v.k = 2 ∨ v.k = 3 ∨ v.k = 4 ∧ 0 ≤ v.n ∧ v.n ≤ 1) := by
  have hse : ∀ s : ByteArray, s = se → s.size ≤ 30 := fun s e => by rw [e]; decide
  by_cases e0 : v.k = 0
  · rw [vl_0 e0] at h; exact ⟨hse _ (bOf_t h).2, .inl e0⟩
  by_cases e1 : v.k = 1
  · rw [vl_1 e1] at h; exact ⟨hse _ (bOf_t h).2, .inr (.inl e1)⟩
  by_cases e2 : v.k = 2
  · rw [vl_2 e2] at h; exact ⟨hse _ (bOf_t h).2, .inr (.inr (.inl e2))⟩
  by_cases e3 : v.k = 3
  · rw [vl_3 e3] at h; exact ⟨(bOf_t h).2, .inr (.inr (.inr (.inl e3)))⟩
  by_cases e4 : v.k = 4
  · rw [vl_4 e4] at h
    have q := (bOf_t h).1
    simp only [inB_iff] at q
    exact ⟨hse _ (bOf_t h).2, .inr (.inr (.inr (.inr ⟨e4, q⟩)))⟩
  · rw [vl_5 e0 e1 e2 e3 e4] at h; cases h
theorem ftV_e {p : Prt} {v : Vl} (h : ftV p v = true) : vlOk v = true ∧ (v.k = p.type ∧ ¬ v.k = 0 ∨ v.k = 0 ∧ p.null = true) := by
  cases e : vlOk v with
  | false => rw [ftV_f e] at h; cases h
  | true => rw [ftV_t e] at h; exact ⟨rfl, bOf_t h⟩
def valB (v : Vl) : List UInt8 :=
  if v.k = 1 then beB 4 (fxN v.n) else if v.k = 2 then vrB v.n else if v.k = 3 then escN v.s v.s.size ++ [0, 1] else [UInt8.ofNat v.n.toNat]
theorem valB_1 {v : Vl} (h : v.k = 1) : valB v = beB 4 (fxN v.n) := if_pos h
theorem valB_2 {v : Vl} (h : v.k = 2) : valB v = vrB v.n := by unfold valB; rw [if_neg (by omega), if_pos h]
theorem valB_3 {v : Vl} (h : v.k = 3) : valB v = escN v.s v.s.size ++ [0, 1] := by unfold valB; rw [if_neg (by omega), if_neg (by omega), if_pos h]
theorem valB_4 {v : Vl} {m : Nat} (h : v.k = 4) (hm : v.n = m) : valB v = [UInt8.ofNat m] := by unfold valB; rw [if_neg (by omega), if_neg (by omega), if_neg (by omega), hm]; rfl
theorem vrB_len (n : Int) : (vrB n).length ≤ 8 := by
  have hc : -1000000000000000 ≤ vrC n ∧ vrC n ≤ 1000000000000000 := by unfold vrC; omega
  by_cases h : 0 ≤ vrC n
  · rw [vrB_p h, vrP, List.length_cons, beB_len]
    have := bN7 (n := (vrC n).toNat) (by omega)
    omega
  · rw [vrB_m h, vrM, List.length_cons, tnB_len, beB_len]
    have := bN7 (n := (-1 - vrC n).toNat) (by omega)
    omega
theorem valB_len {v : Vl} (h : v.s.size ≤ 2000000) : (valB v).length ≤ 2 * v.s.size + 8 := by
  unfold valB
  split
  · rw [beB_len]; omega
  split
  · have := vrB_len v.n; omega
  split
  · have := escN_len v.s v.s.size
    rw [List.length_append]; simp; omega
  · simp
/-- A value as a part has it, not turned. -/
def bdy (p : Prt) (v : Vl) : List UInt8 := if v.k = 0 then [0] else (match p.null with | true => [1] | false => []) ++ valB v
theorem bdy_0 {p : Prt} {v : Vl} (h : v.k = 0) : bdy p v = [0] := if_pos h
theorem bdy_t {p : Prt} {v : Vl} (h : ¬ v.k = 0) (hp : p.null = true) : bdy p v = [1] ++ valB v := by unfold bdy; rw [if_neg h, hp]
theorem bdy_f {p : Prt} {v : Vl} (h : ¬ v.k = 0) (hp : p.null = false) : bdy p v = valB v := by unfold bdy; rw [if_neg h, hp]; rfl
theorem bdy_len {p : Prt} {v : Vl} (h : v.s.size ≤ 2000000) : (bdy p v).length ≤ 2 * v.s.size + 9 := by
  have := valB_len h
  unfold bdy
  split
  · simp
  · rw [List.length_append]
    split <;> simp <;> omega
noncomputable def prtB (p : Prt) (v : Vl) : List UInt8 :=
  match ptV p && ftV p v with
  | false => []
  | true => match p.desc with
    | true => tnB 255 (bdy p v)
    | false => bdy p v
theorem prtB_0 {p : Prt} {v : Vl} (h : ptV p = false ∨ ftV p v = false) : prtB p v = [] := by
  unfold prtB
  rcases h with h | h
  · rw [h]; rfl
  · rw [h, Bool.and_false]
theorem prtB_d {p : Prt} {v : Vl} (h : ptV p = true) (h2 : ftV p v = true) (hd : p.desc = true) : prtB p v = tnB 255 (bdy p v) := by unfold prtB; rw [h, h2, hd]; rfl
theorem prtB_a {p : Prt} {v : Vl} (h : ptV p = true) (h2 : ftV p v = true) (hd : p.desc = false) : prtB p v = bdy p v := by unfold prtB; rw [h, h2, hd]; rfl
theorem prtB_len {p : Prt} {v : Vl} (h : v.s.size ≤ 2000000) : (prtB p v).length ≤ 2 * v.s.size + 9 := by
  have := bdy_len (p := p) h
  unfold prtB
  split
  · simp
  · split
    · rw [tnB_len]; exact this
    · exact this
attribute [local irreducible] valB bdy
theorem flI {bs out Y : List UInt8} (h : out = bs ++ Y) (hb : out.length ≤ 10000000) : T 193 [aE out, aI (bs.length : Nat)] [vE (bs ++ tnB 255 Y)] [none, none] := by
  subst h
  have hb2 := hb
  rw [List.length_append] at hb2
  have q := tx193 (bs := bs ++ Y) (k := bs.length)
  rwa [fl1_app] at q
theorem flS {bs out Y : List UInt8} (h : out = bs ++ Y) (hb : out.length ≤ 10000000) : T 167 [aE out, aI (bs.length : Nat)] [vE (bs ++ tnB 255 Y)] [none, none] := by
  subst h
  have hb2 := hb
  rw [List.length_append] at hb2
  have q := tx167 (bs := bs ++ Y) (k := bs.length)
  rwa [fl1_app] at q

set_option maxHeartbeats 2000000 in
set_option maxRecDepth 100000 in
theorem tx181 {bs : List UInt8} {v : Vl} (hb : bs.length ≤ 4000000 := by first | assumption | omega | (simp; done) | (simp; omega)) (hs : v.s.size ≤ 2000000 := by first | assumption | omega | (simp; done) | (simp; omega)) (hk : v.k = 1 ∨ v.k = 2 ∨ v.k = 3 ∨ v.k = 4 ∧ 0 ≤ v.n ∧ v.n ≤ 1 := by first | assumption | omega | (simp; done) | (simp; omega)) : T 181 [aE bs, .val true (vlC v)] [vE (bs ++ valB v)] [none, none] := by
  refine w_call md [] Tryz.func181 rfl ?_
  rcases hk with hk | hk | hk | ⟨hk, hn1, hn2⟩
  · rw [valB_1 hk]
    repeat' ((conv => whnf); (first | refine k0 ?_ | refine jA fun _ => ?_ | refine jB fun _ => ?_ | refine kC (fun _ => ?_) fun _ => ?_ | (apply cx186; refine kl tx186 ?_) | (apply cx147; refine kl tx147 ?_) | (apply cx187; refine kl tx187 ?_) | refine jst ?_ | exact ⟨rfl, rfl⟩ | exact jV | fail))
  · rw [valB_2 hk]
    repeat' ((conv => whnf); (first | refine k0 ?_ | refine jA fun _ => ?_ | refine jB fun _ => ?_ | refine kC (fun _ => ?_) fun _ => ?_ | (apply cx186; refine kl tx186 ?_) | (apply cx147; refine kl tx147 ?_) | (apply cx187; refine kl tx187 ?_) | refine jst ?_ | exact ⟨rfl, rfl⟩ | exact jV | fail))
  · rw [valB_3 hk]
    repeat' ((conv => whnf); (first | refine k0 ?_ | refine jA fun _ => ?_ | refine jB fun _ => ?_ | refine kC (fun _ => ?_) fun _ => ?_ | (apply cx186; refine kl tx186 ?_) | (apply cx147; refine kl tx147 ?_) | (apply cx187; refine kl tx187 ?_) | refine jst ?_ | exact ⟨rfl, rfl⟩ | exact jV | fail))
  · obtain ⟨m, hm⟩ : ∃ m : Nat, v.n = m := ⟨v.n.toNat, by omega⟩
    rw [valB_4 hk hm]
    repeat' ((conv => whnf); (first | refine Exists.intro _ (Exists.intro (cs true (_ : List UInt8)) (And.intro rfl (And.intro ⟨Nat.le_refl _, bgb (by omega), bg (by omega)⟩ (Exists.intro _ (And.intro ape (Exists.intro _ (And.intro (Nat.zero_add _) ?_))))))) | refine Exists.intro _ (And.intro ((congrArg _ hm).trans (u8n _)) ?_) | refine jap (apB ?_) | refine k0 ?_ | refine jA fun _ => ?_ | refine jB fun _ => ?_ | refine kC (fun _ => ?_) fun _ => ?_ | (apply cx186; refine kl tx186 ?_) | (apply cx147; refine kl tx147 ?_) | (apply cx187; refine kl tx187 ?_) | refine jst ?_ | exact ⟨rfl, rfl⟩ | exact jV | fail))

theorem cx181 {P : Program} {X : FuncId → List Arg → List (Bool × List Cell) → List (Option (List Cell)) → Prop} {a : List Arg} {Q : List (Bool × List Cell) → List (Option (List Cell)) → Prop} (h : ∃ b vals outs, a = b ∧ D P X (.call 181 b vals outs) ∧ Q vals outs) : CallS P X 181 a Q := ⟨h⟩

set_option maxHeartbeats 2000000 in
set_option maxRecDepth 100000 in
theorem tx185 {bs : List UInt8} {p : Prt} {v : Vl} (hb : bs.length ≤ 3000000 := by first | assumption | omega | (simp; done) | (simp; omega)) (hs : v.s.size ≤ 2000000 := by first | assumption | omega | (simp; done) | (simp; omega)) : T 185 [aO bs, .val true (prtC p), .val true (vlC v)] [vE (bs ++ prtB p v)] [none, none, none] := by
  refine w_call md [] Tryz.func185 rfl ?_
  have hP : T 152 [.val true (prtC p)] [vB (ptV p)] [none] := tx152
  have hF : T 153 [.val true (prtC p), .val true (vlC v)] [vB (ftV p v)] [none, none] := tx153
  have hpn := @bdy_t p v
  have hpf := @bdy_f p v
  cases h1 : ptV p
  · rw [h1] at hP
    rw [prtB_0 (.inl h1), List.append_nil]
    repeat' ((conv => whnf); (first | (apply cx152; refine kl (hP) ?_) | refine Exists.intro _ (Exists.intro (cs true (_ : List UInt8)) (And.intro rfl (And.intro ⟨Nat.le_refl _, bgb (by omega), bg (by omega)⟩ (Exists.intro _ (And.intro ape (Exists.intro _ (And.intro (Nat.zero_add _) ?_))))))) | refine k0 ?_ | refine jA fun _ => ?_ | refine jB fun _ => ?_ | refine kC (fun _ => ?_) fun _ => ?_ | (apply cx152; refine kl tx152 ?_) | (apply cx153; refine kl tx153 ?_) | (apply cx191; refine kl tx191 ?_) | (apply cx156; refine kl tx156 ?_) | (apply cx192; refine kl tx192 ?_) | (apply cx193; refine kl tx193 ?_) | refine jst ?_ | exact ⟨rfl, rfl⟩ | exact jV | fail))
  cases h2 : ftV p v
  · rw [h1] at hP
    rw [h2] at hF
    rw [prtB_0 (.inr h2), List.append_nil]
    repeat' ((conv => whnf); (first | (apply cx152; refine kl (hP) ?_) | (apply cx153; refine kl (hF) ?_) | refine Exists.intro _ (Exists.intro (cs true (_ : List UInt8)) (And.intro rfl (And.intro ⟨Nat.le_refl _, bgb (by omega), bg (by omega)⟩ (Exists.intro _ (And.intro ape (Exists.intro _ (And.intro (Nat.zero_add _) ?_))))))) | refine k0 ?_ | refine jA fun _ => ?_ | refine jB fun _ => ?_ | refine kC (fun _ => ?_) fun _ => ?_ | (apply cx152; refine kl tx152 ?_) | (apply cx153; refine kl tx153 ?_) | (apply cx191; refine kl tx191 ?_) | (apply cx156; refine kl tx156 ?_) | (apply cx192; refine kl tx192 ?_) | (apply cx193; refine kl tx193 ?_) | refine jst ?_ | exact ⟨rfl, rfl⟩ | exact jV | fail))
  have e1 := prtB_d h1 h2
  have e0 := prtB_a h1 h2
  rw [h1] at hP
  rw [h2] at hF
  obtain ⟨hs2, hk⟩ := vlOk_e (ftV_e h2).1
  have hft := (ftV_e h2).2
  obtain ⟨col, type, null, desc⟩ := p
  dsimp only at hpn hpf e1 e0 hft
  have hz := @bdy_0 (Prt.mk col type null desc) v
  generalize bdy _ v = Y at *
  rcases hk with hk | hk
  · obtain rfl : null = true := hft.elim (fun q => absurd hk q.2) (fun q => q.2)
    have hY : bs ++ [0] = bs ++ Y := by rw [hz hk]
    cases desc
    · rw [e0 rfl]
      repeat' ((conv => whnf); (first | (apply cx152; refine kl (hP) ?_) | (apply cx153; refine kl (hF) ?_) | refine Exists.intro _ (Exists.intro (cs true (_ : List UInt8)) (And.intro rfl (And.intro ⟨Nat.le_refl _, bgb (by omega), bg (by omega)⟩ (Exists.intro _ (And.intro ape (Exists.intro _ (And.intro (Nat.zero_add _) ?_))))))) | (apply cx193; refine kl ((flI hY (by simp <;> omega))) ?_) | refine jap (apE (ys := [0]) ?_) | refine k0 ?_ | refine jA fun _ => ?_ | refine jB fun _ => ?_ | refine kC (fun _ => ?_) fun _ => ?_ | (apply cx152; refine kl tx152 ?_) | (apply cx153; refine kl tx153 ?_) | (apply cx191; refine kl tx191 ?_) | (apply cx156; refine kl tx156 ?_) | (apply cx192; refine kl tx192 ?_) | (apply cx193; refine kl tx193 ?_) | refine jst ?_ | exact ⟨rfl, rfl⟩ | exact jV | fail))
      all_goals exact ⟨congrArg (fun l => [vE l]) hY, rfl⟩
    · rw [e1 rfl]
      repeat' ((conv => whnf); (first | (apply cx152; refine kl (hP) ?_) | (apply cx153; refine kl (hF) ?_) | refine Exists.intro _ (Exists.intro (cs true (_ : List UInt8)) (And.intro rfl (And.intro ⟨Nat.le_refl _, bgb (by omega), bg (by omega)⟩ (Exists.intro _ (And.intro ape (Exists.intro _ (And.intro (Nat.zero_add _) ?_))))))) | (apply cx193; refine kl ((flI hY (by simp <;> omega))) ?_) | refine jap (apE (ys := [0]) ?_) | refine k0 ?_ | refine jA fun _ => ?_ | refine jB fun _ => ?_ | refine kC (fun _ => ?_) fun _ => ?_ | (apply cx152; refine kl tx152 ?_) | (apply cx153; refine kl tx153 ?_) | (apply cx191; refine kl tx191 ?_) | (apply cx156; refine kl tx156 ?_) | (apply cx192; refine kl tx192 ?_) | (apply cx193; refine kl tx193 ?_) | refine jst ?_ | exact ⟨rfl, rfl⟩ | exact jV | fail))
      all_goals exact ⟨congrArg (fun l => [vE l]) hY, rfl⟩
  have hk0 : ¬ v.k = 0 := by omega
  rcases hk with hk | hk | hk | ⟨hk, hn1, hn2⟩
  · cases null
    · have hl : (beB 4 (fxN v.n) : List UInt8).length ≤ 2 * v.s.size + 8 := by rw [← valB_1 hk]; exact valB_len hs
      have hY : bs ++ beB 4 (fxN v.n) = bs ++ Y := by rw [hpf hk0 rfl, valB_1 hk]
      cases desc
      · rw [e0 rfl]
        repeat' ((conv => whnf); (first | (apply cx152; refine kl (hP) ?_) | (apply cx153; refine kl (hF) ?_) | refine Exists.intro _ (Exists.intro (cs true (_ : List UInt8)) (And.intro rfl (And.intro ⟨Nat.le_refl _, bgb (by omega), bg (by omega)⟩ (Exists.intro _ (And.intro ape (Exists.intro _ (And.intro (Nat.zero_add _) ?_))))))) | (apply cx193; refine kl ((flI hY (by simp <;> omega))) ?_) | refine jap (apE (ys := [1]) ?_) | refine k0 ?_ | refine jA fun _ => ?_ | refine jB fun _ => ?_ | refine kC (fun _ => ?_) fun _ => ?_ | (apply cx152; refine kl tx152 ?_) | (apply cx153; refine kl tx153 ?_) | (apply cx191; refine kl tx191 ?_) | (apply cx156; refine kl tx156 ?_) | (apply cx192; refine kl tx192 ?_) | (apply cx193; refine kl tx193 ?_) | refine jst ?_ | exact ⟨rfl, rfl⟩ | exact jV | fail))
        all_goals exact ⟨congrArg (fun l => [vE l]) hY, rfl⟩
      · rw [e1 rfl]
        repeat' ((conv => whnf); (first | (apply cx152; refine kl (hP) ?_) | (apply cx153; refine kl (hF) ?_) | refine Exists.intro _ (Exists.intro (cs true (_ : List UInt8)) (And.intro rfl (And.intro ⟨Nat.le_refl _, bgb (by omega), bg (by omega)⟩ (Exists.intro _ (And.intro ape (Exists.intro _ (And.intro (Nat.zero_add _) ?_))))))) | (apply cx193; refine kl ((flI hY (by simp <;> omega))) ?_) | refine jap (apE (ys := [1]) ?_) | refine k0 ?_ | refine jA fun _ => ?_ | refine jB fun _ => ?_ | refine kC (fun _ => ?_) fun _ => ?_ | (apply cx152; refine kl tx152 ?_) | (apply cx153; refine kl tx153 ?_) | (apply cx191; refine kl tx191 ?_) | (apply cx156; refine kl tx156 ?_) | (apply cx192; refine kl tx192 ?_) | (apply cx193; refine kl tx193 ?_) | refine jst ?_ | exact ⟨rfl, rfl⟩ | exact jV | fail))
        all_goals exact ⟨congrArg (fun l => [vE l]) hY, rfl⟩
    · have hl : (beB 4 (fxN v.n) : List UInt8).length ≤ 2 * v.s.size + 8 := by rw [← valB_1 hk]; exact valB_len hs
      have hY : bs ++ [1] ++ beB 4 (fxN v.n) = bs ++ Y := by rw [hpn hk0 rfl, valB_1 hk]; simp
      cases desc
      · rw [e0 rfl]
        repeat' ((conv => whnf); (first | (apply cx152; refine kl (hP) ?_) | (apply cx153; refine kl (hF) ?_) | refine Exists.intro _ (Exists.intro (cs true (_ : List UInt8)) (And.intro rfl (And.intro ⟨Nat.le_refl _, bgb (by omega), bg (by omega)⟩ (Exists.intro _ (And.intro ape (Exists.intro _ (And.intro (Nat.zero_add _) ?_))))))) | (apply cx193; refine kl ((flI hY (by simp <;> omega))) ?_) | refine jap (apE (ys := [1]) ?_) | refine k0 ?_ | refine jA fun _ => ?_ | refine jB fun _ => ?_ | refine kC (fun _ => ?_) fun _ => ?_ | (apply cx152; refine kl tx152 ?_) | (apply cx153; refine kl tx153 ?_) | (apply cx191; refine kl tx191 ?_) | (apply cx156; refine kl tx156 ?_) | (apply cx192; refine kl tx192 ?_) | (apply cx193; refine kl tx193 ?_) | refine jst ?_ | exact ⟨rfl, rfl⟩ | exact jV | fail))
        all_goals exact ⟨congrArg (fun l => [vE l]) hY, rfl⟩
      · rw [e1 rfl]
        repeat' ((conv => whnf); (first | (apply cx152; refine kl (hP) ?_) | (apply cx153; refine kl (hF) ?_) | refine Exists.intro _ (Exists.intro (cs true (_ : List UInt8)) (And.intro rfl (And.intro ⟨Nat.le_refl _, bgb (by omega), bg (by omega)⟩ (Exists.intro _ (And.intro ape (Exists.intro _ (And.intro (Nat.zero_add _) ?_))))))) | (apply cx193; refine kl ((flI hY (by simp <;> omega))) ?_) | refine jap (apE (ys := [1]) ?_) | refine k0 ?_ | refine jA fun _ => ?_ | refine jB fun _ => ?_ | refine kC (fun _ => ?_) fun _ => ?_ | (apply cx152; refine kl tx152 ?_) | (apply cx153; refine kl tx153 ?_) | (apply cx191; refine kl tx191 ?_) | (apply cx156; refine kl tx156 ?_) | (apply cx192; refine kl tx192 ?_) | (apply cx193; refine kl tx193 ?_) | refine jst ?_ | exact ⟨rfl, rfl⟩ | exact jV | fail))
        all_goals exact ⟨congrArg (fun l => [vE l]) hY, rfl⟩
  · cases null
    · have hl : (vrB v.n : List UInt8).length ≤ 2 * v.s.size + 8 := by rw [← valB_2 hk]; exact valB_len hs
      have hY : bs ++ vrB v.n = bs ++ Y := by rw [hpf hk0 rfl, valB_2 hk]
      cases desc
      · rw [e0 rfl]
        repeat' ((conv => whnf); (first | (apply cx152; refine kl (hP) ?_) | (apply cx153; refine kl (hF) ?_) | refine Exists.intro _ (Exists.intro (cs true (_ : List UInt8)) (And.intro rfl (And.intro ⟨Nat.le_refl _, bgb (by omega), bg (by omega)⟩ (Exists.intro _ (And.intro ape (Exists.intro _ (And.intro (Nat.zero_add _) ?_))))))) | (apply cx193; refine kl ((flI hY (by simp <;> omega))) ?_) | refine jap (apE (ys := [1]) ?_) | refine k0 ?_ | refine jA fun _ => ?_ | refine jB fun _ => ?_ | refine kC (fun _ => ?_) fun _ => ?_ | (apply cx152; refine kl tx152 ?_) | (apply cx153; refine kl tx153 ?_) | (apply cx191; refine kl tx191 ?_) | (apply cx156; refine kl tx156 ?_) | (apply cx192; refine kl tx192 ?_) | (apply cx193; refine kl tx193 ?_) | refine jst ?_ | exact ⟨rfl, rfl⟩ | exact jV | fail))
        all_goals exact ⟨congrArg (fun l => [vE l]) hY, rfl⟩
      · rw [e1 rfl]
        repeat' ((conv => whnf); (first | (apply cx152; refine kl (hP) ?_) | (apply cx153; refine kl (hF) ?_) | refine Exists.intro _ (Exists.intro (cs true (_ : List UInt8)) (And.intro rfl (And.intro ⟨Nat.le_refl _, bgb (by omega), bg (by omega)⟩ (Exists.intro _ (And.intro ape (Exists.intro _ (And.intro (Nat.zero_add _) ?_))))))) | (apply cx193; refine kl ((flI hY (by simp <;> omega))) ?_) | refine jap (apE (ys := [1]) ?_) | refine k0 ?_ | refine jA fun _ => ?_ | refine jB fun _ => ?_ | refine kC (fun _ => ?_) fun _ => ?_ | (apply cx152; refine kl tx152 ?_) | (apply cx153; refine kl tx153 ?_) | (apply cx191; refine kl tx191 ?_) | (apply cx156; refine kl tx156 ?_) | (apply cx192; refine kl tx192 ?_) | (apply cx193; refine kl tx193 ?_) | refine jst ?_ | exact ⟨rfl, rfl⟩ | exact jV | fail))
        all_goals exact ⟨congrArg (fun l => [vE l]) hY, rfl⟩
    · have hl : (vrB v.n : List UInt8).length ≤ 2 * v.s.size + 8 := by rw [← valB_2 hk]; exact valB_len hs
      have hY : bs ++ [1] ++ vrB v.n = bs ++ Y := by rw [hpn hk0 rfl, valB_2 hk]; simp
      cases desc
      · rw [e0 rfl]
        repeat' ((conv => whnf); (first | (apply cx152; refine kl (hP) ?_) | (apply cx153; refine kl (hF) ?_) | refine Exists.intro _ (Exists.intro (cs true (_ : List UInt8)) (And.intro rfl (And.intro ⟨Nat.le_refl _, bgb (by omega), bg (by omega)⟩ (Exists.intro _ (And.intro ape (Exists.intro _ (And.intro (Nat.zero_add _) ?_))))))) | (apply cx193; refine kl ((flI hY (by simp <;> omega))) ?_) | refine jap (apE (ys := [1]) ?_) | refine k0 ?_ | refine jA fun _ => ?_ | refine jB fun _ => ?_ | refine kC (fun _ => ?_) fun _ => ?_ | (apply cx152; refine kl tx152 ?_) | (apply cx153; refine kl tx153 ?_) | (apply cx191; refine kl tx191 ?_) | (apply cx156; refine kl tx156 ?_) | (apply cx192; refine kl tx192 ?_) | (apply cx193; refine kl tx193 ?_) | refine jst ?_ | exact ⟨rfl, rfl⟩ | exact jV | fail))
        all_goals exact ⟨congrArg (fun l => [vE l]) hY, rfl⟩
      · rw [e1 rfl]
        repeat' ((conv => whnf); (first | (apply cx152; refine kl (hP) ?_) | (apply cx153; refine kl (hF) ?_) | refine Exists.intro _ (Exists.intro (cs true (_ : List UInt8)) (And.intro rfl (And.intro ⟨Nat.le_refl _, bgb (by omega), bg (by omega)⟩ (Exists.intro _ (And.intro ape (Exists.intro _ (And.intro (Nat.zero_add _) ?_))))))) | (apply cx193; refine kl ((flI hY (by simp <;> omega))) ?_) | refine jap (apE (ys := [1]) ?_) | refine k0 ?_ | refine jA fun _ => ?_ | refine jB fun _ => ?_ | refine kC (fun _ => ?_) fun _ => ?_ | (apply cx152; refine kl tx152 ?_) | (apply cx153; refine kl tx153 ?_) | (apply cx191; refine kl tx191 ?_) | (apply cx156; refine kl tx156 ?_) | (apply cx192; refine kl tx192 ?_) | (apply cx193; refine kl tx193 ?_) | refine jst ?_ | exact ⟨rfl, rfl⟩ | exact jV | fail))
        all_goals exact ⟨congrArg (fun l => [vE l]) hY, rfl⟩
  · cases null
    · have hl : ((escN v.s v.s.size ++ [0, 1]) : List UInt8).length ≤ 2 * v.s.size + 8 := by rw [← valB_3 hk]; exact valB_len hs
      have hl2 := escN_len v.s v.s.size
      have hY : bs ++ (escN v.s v.s.size ++ [0, 1]) = bs ++ Y := by rw [hpf hk0 rfl, valB_3 hk]
      cases desc
      · rw [e0 rfl]
        repeat' ((conv => whnf); (first | (apply cx152; refine kl (hP) ?_) | (apply cx153; refine kl (hF) ?_) | refine Exists.intro _ (Exists.intro (cs true (_ : List UInt8)) (And.intro rfl (And.intro ⟨Nat.le_refl _, bgb (by omega), bg (by omega)⟩ (Exists.intro _ (And.intro ape (Exists.intro _ (And.intro (Nat.zero_add _) ?_))))))) | (apply cx193; refine kl ((flI hY (by simp <;> omega))) ?_) | refine jap (apE (ys := [1]) ?_) | refine k0 ?_ | refine jA fun _ => ?_ | refine jB fun _ => ?_ | refine kC (fun _ => ?_) fun _ => ?_ | (apply cx152; refine kl tx152 ?_) | (apply cx153; refine kl tx153 ?_) | (apply cx191; refine kl tx191 ?_) | (apply cx156; refine kl tx156 ?_) | (apply cx192; refine kl tx192 ?_) | (apply cx193; refine kl tx193 ?_) | refine jst ?_ | exact ⟨rfl, rfl⟩ | exact jV | fail))
        all_goals exact ⟨congrArg (fun l => [vE l]) hY, rfl⟩
      · rw [e1 rfl]
        repeat' ((conv => whnf); (first | (apply cx152; refine kl (hP) ?_) | (apply cx153; refine kl (hF) ?_) | refine Exists.intro _ (Exists.intro (cs true (_ : List UInt8)) (And.intro rfl (And.intro ⟨Nat.le_refl _, bgb (by omega), bg (by omega)⟩ (Exists.intro _ (And.intro ape (Exists.intro _ (And.intro (Nat.zero_add _) ?_))))))) | (apply cx193; refine kl ((flI hY (by simp <;> omega))) ?_) | refine jap (apE (ys := [1]) ?_) | refine k0 ?_ | refine jA fun _ => ?_ | refine jB fun _ => ?_ | refine kC (fun _ => ?_) fun _ => ?_ | (apply cx152; refine kl tx152 ?_) | (apply cx153; refine kl tx153 ?_) | (apply cx191; refine kl tx191 ?_) | (apply cx156; refine kl tx156 ?_) | (apply cx192; refine kl tx192 ?_) | (apply cx193; refine kl tx193 ?_) | refine jst ?_ | exact ⟨rfl, rfl⟩ | exact jV | fail))
        all_goals exact ⟨congrArg (fun l => [vE l]) hY, rfl⟩
    · have hl : ((escN v.s v.s.size ++ [0, 1]) : List UInt8).length ≤ 2 * v.s.size + 8 := by rw [← valB_3 hk]; exact valB_len hs
      have hl2 := escN_len v.s v.s.size
      have hY : bs ++ [1] ++ (escN v.s v.s.size ++ [0, 1]) = bs ++ Y := by rw [hpn hk0 rfl, valB_3 hk]; simp
      cases desc
      · rw [e0 rfl]
        repeat' ((conv => whnf); (first | (apply cx152; refine kl (hP) ?_) | (apply cx153; refine kl (hF) ?_) | refine Exists.intro _ (Exists.intro (cs true (_ : List UInt8)) (And.intro rfl (And.intro ⟨Nat.le_refl _, bgb (by omega), bg (by omega)⟩ (Exists.intro _ (And.intro ape (Exists.intro _ (And.intro (Nat.zero_add _) ?_))))))) | (apply cx193; refine kl ((flI hY (by simp <;> omega))) ?_) | refine jap (apE (ys := [1]) ?_) | refine k0 ?_ | refine jA fun _ => ?_ | refine jB fun _ => ?_ | refine kC (fun _ => ?_) fun _ => ?_ | (apply cx152; refine kl tx152 ?_) | (apply cx153; refine kl tx153 ?_) | (apply cx191; refine kl tx191 ?_) | (apply cx156; refine kl tx156 ?_) | (apply cx192; refine kl tx192 ?_) | (apply cx193; refine kl tx193 ?_) | refine jst ?_ | exact ⟨rfl, rfl⟩ | exact jV | fail))
        all_goals exact ⟨congrArg (fun l => [vE l]) hY, rfl⟩
      · rw [e1 rfl]
        repeat' ((conv => whnf); (first | (apply cx152; refine kl (hP) ?_) | (apply cx153; refine kl (hF) ?_) | refine Exists.intro _ (Exists.intro (cs true (_ : List UInt8)) (And.intro rfl (And.intro ⟨Nat.le_refl _, bgb (by omega), bg (by omega)⟩ (Exists.intro _ (And.intro ape (Exists.intro _ (And.intro (Nat.zero_add _) ?_))))))) | (apply cx193; refine kl ((flI hY (by simp <;> omega))) ?_) | refine jap (apE (ys := [1]) ?_) | refine k0 ?_ | refine jA fun _ => ?_ | refine jB fun _ => ?_ | refine kC (fun _ => ?_) fun _ => ?_ | (apply cx152; refine kl tx152 ?_) | (apply cx153; refine kl tx153 ?_) | (apply cx191; refine kl tx191 ?_) | (apply cx156; refine kl tx156 ?_) | (apply cx192; refine kl tx192 ?_) | (apply cx193; refine kl tx193 ?_) | refine jst ?_ | exact ⟨rfl, rfl⟩ | exact jV | fail))
        all_goals exact ⟨congrArg (fun l => [vE l]) hY, rfl⟩
  · obtain ⟨m, hm⟩ : ∃ m : Nat, v.n = m := ⟨v.n.toNat, by omega⟩
    cases null
    · have hl : ([UInt8.ofNat m] : List UInt8).length ≤ 2 * v.s.size + 8 := by rw [← valB_4 hk hm]; exact valB_len hs
      have hY : bs ++ [UInt8.ofNat m] = bs ++ Y := by rw [hpf hk0 rfl, valB_4 hk hm]
      cases desc
      · rw [e0 rfl]
        repeat' ((conv => whnf); (first | (apply cx152; refine kl (hP) ?_) | (apply cx153; refine kl (hF) ?_) | refine Exists.intro _ (Exists.intro (cs true (_ : List UInt8)) (And.intro rfl (And.intro ⟨Nat.le_refl _, bgb (by omega), bg (by omega)⟩ (Exists.intro _ (And.intro ape (Exists.intro _ (And.intro (Nat.zero_add _) ?_))))))) | (apply cx193; refine kl ((flI hY (by simp <;> omega))) ?_) | refine jap (apE (ys := [1]) ?_) | refine Exists.intro _ (And.intro ((congrArg _ hm).trans (u8n _)) ?_) | refine jap (apB ?_) | refine k0 ?_ | refine jA fun _ => ?_ | refine jB fun _ => ?_ | refine kC (fun _ => ?_) fun _ => ?_ | (apply cx152; refine kl tx152 ?_) | (apply cx153; refine kl tx153 ?_) | (apply cx191; refine kl tx191 ?_) | (apply cx156; refine kl tx156 ?_) | (apply cx192; refine kl tx192 ?_) | (apply cx193; refine kl tx193 ?_) | refine jst ?_ | exact ⟨rfl, rfl⟩ | exact jV | fail))
        all_goals exact ⟨congrArg (fun l => [vE l]) hY, rfl⟩
      · rw [e1 rfl]
        repeat' ((conv => whnf); (first | (apply cx152; refine kl (hP) ?_) | (apply cx153; refine kl (hF) ?_) | refine Exists.intro _ (Exists.intro (cs true (_ : List UInt8)) (And.intro rfl (And.intro ⟨Nat.le_refl _, bgb (by omega), bg (by omega)⟩ (Exists.intro _ (And.intro ape (Exists.intro _ (And.intro (Nat.zero_add _) ?_))))))) | (apply cx193; refine kl ((flI hY (by simp <;> omega))) ?_) | refine jap (apE (ys := [1]) ?_) | refine Exists.intro _ (And.intro ((congrArg _ hm).trans (u8n _)) ?_) | refine jap (apB ?_) | refine k0 ?_ | refine jA fun _ => ?_ | refine jB fun _ => ?_ | refine kC (fun _ => ?_) fun _ => ?_ | (apply cx152; refine kl tx152 ?_) | (apply cx153; refine kl tx153 ?_) | (apply cx191; refine kl tx191 ?_) | (apply cx156; refine kl tx156 ?_) | (apply cx192; refine kl tx192 ?_) | (apply cx193; refine kl tx193 ?_) | refine jst ?_ | exact ⟨rfl, rfl⟩ | exact jV | fail))
        all_goals exact ⟨congrArg (fun l => [vE l]) hY, rfl⟩
    · have hl : ([UInt8.ofNat m] : List UInt8).length ≤ 2 * v.s.size + 8 := by rw [← valB_4 hk hm]; exact valB_len hs
      have hY : bs ++ [1] ++ [UInt8.ofNat m] = bs ++ Y := by rw [hpn hk0 rfl, valB_4 hk hm]; simp
      cases desc
      · rw [e0 rfl]
        repeat' ((conv => whnf); (first | (apply cx152; refine kl (hP) ?_) | (apply cx153; refine kl (hF) ?_) | refine Exists.intro _ (Exists.intro (cs true (_ : List UInt8)) (And.intro rfl (And.intro ⟨Nat.le_refl _, bgb (by omega), bg (by omega)⟩ (Exists.intro _ (And.intro ape (Exists.intro _ (And.intro (Nat.zero_add _) ?_))))))) | (apply cx193; refine kl ((flI hY (by simp <;> omega))) ?_) | refine jap (apE (ys := [1]) ?_) | refine Exists.intro _ (And.intro ((congrArg _ hm).trans (u8n _)) ?_) | refine jap (apB ?_) | refine k0 ?_ | refine jA fun _ => ?_ | refine jB fun _ => ?_ | refine kC (fun _ => ?_) fun _ => ?_ | (apply cx152; refine kl tx152 ?_) | (apply cx153; refine kl tx153 ?_) | (apply cx191; refine kl tx191 ?_) | (apply cx156; refine kl tx156 ?_) | (apply cx192; refine kl tx192 ?_) | (apply cx193; refine kl tx193 ?_) | refine jst ?_ | exact ⟨rfl, rfl⟩ | exact jV | fail))
        all_goals exact ⟨congrArg (fun l => [vE l]) hY, rfl⟩
      · rw [e1 rfl]
        repeat' ((conv => whnf); (first | (apply cx152; refine kl (hP) ?_) | (apply cx153; refine kl (hF) ?_) | refine Exists.intro _ (Exists.intro (cs true (_ : List UInt8)) (And.intro rfl (And.intro ⟨Nat.le_refl _, bgb (by omega), bg (by omega)⟩ (Exists.intro _ (And.intro ape (Exists.intro _ (And.intro (Nat.zero_add _) ?_))))))) | (apply cx193; refine kl ((flI hY (by simp <;> omega))) ?_) | refine jap (apE (ys := [1]) ?_) | refine Exists.intro _ (And.intro ((congrArg _ hm).trans (u8n _)) ?_) | refine jap (apB ?_) | refine k0 ?_ | refine jA fun _ => ?_ | refine jB fun _ => ?_ | refine kC (fun _ => ?_) fun _ => ?_ | (apply cx152; refine kl tx152 ?_) | (apply cx153; refine kl tx153 ?_) | (apply cx191; refine kl tx191 ?_) | (apply cx156; refine kl tx156 ?_) | (apply cx192; refine kl tx192 ?_) | (apply cx193; refine kl tx193 ?_) | refine jst ?_ | exact ⟨rfl, rfl⟩ | exact jV | fail))
        all_goals exact ⟨congrArg (fun l => [vE l]) hY, rfl⟩

theorem cx185 {P : Program} {X : FuncId → List Arg → List (Bool × List Cell) → List (Option (List Cell)) → Prop} {a : List Arg} {Q : List (Bool × List Cell) → List (Option (List Cell)) → Prop} (h : ∃ b vals outs, a = b ∧ D P X (.call 185 b vals outs) ∧ Q vals outs) : CallS P X 185 a Q := ⟨h⟩

set_option maxHeartbeats 2000000 in
set_option maxRecDepth 100000 in
theorem tx165 {bs : List UInt8} {p : Prt} {v : Vl} (hb : bs.length ≤ 3000000 := by first | assumption | omega | (simp; done) | (simp; omega)) (hs : v.s.size ≤ 2000000 := by first | assumption | omega | (simp; done) | (simp; omega)) : T 165 [aE bs, .val true (prtC p), .val true (vlC v)] [vE (bs ++ prtB p v)] [none, none, none] := by
  refine w_call md [] Tryz.func165 rfl ?_
  have hP : T 141 [.val true (prtC p)] [vB (ptV p)] [none] := tx141
  have hF : T 142 [.val true (prtC p), .val true (vlC v)] [vB (ftV p v)] [none, none] := tx142
  have hpn := @bdy_t p v
  have hpf := @bdy_f p v
  cases h1 : ptV p
  · rw [h1] at hP
    rw [prtB_0 (.inl h1), List.append_nil]
    repeat' ((conv => whnf); (first | (apply cx141; refine kl (hP) ?_) | refine Exists.intro _ (Exists.intro (cs true (_ : List UInt8)) (And.intro rfl (And.intro ⟨Nat.le_refl _, bgb (by omega), bg (by omega)⟩ (Exists.intro _ (And.intro ape (Exists.intro _ (And.intro (Nat.zero_add _) ?_))))))) | refine k0 ?_ | refine jA fun _ => ?_ | refine jB fun _ => ?_ | refine kC (fun _ => ?_) fun _ => ?_ | (apply cx141; refine kl tx141 ?_) | (apply cx142; refine kl tx142 ?_) | (apply cx181; refine kl tx181 ?_) | (apply cx167; refine kl tx167 ?_) | refine jst ?_ | exact ⟨rfl, rfl⟩ | exact jV | fail))
  cases h2 : ftV p v
  · rw [h1] at hP
    rw [h2] at hF
    rw [prtB_0 (.inr h2), List.append_nil]
    repeat' ((conv => whnf); (first | (apply cx141; refine kl (hP) ?_) | (apply cx142; refine kl (hF) ?_) | refine Exists.intro _ (Exists.intro (cs true (_ : List UInt8)) (And.intro rfl (And.intro ⟨Nat.le_refl _, bgb (by omega), bg (by omega)⟩ (Exists.intro _ (And.intro ape (Exists.intro _ (And.intro (Nat.zero_add _) ?_))))))) | refine k0 ?_ | refine jA fun _ => ?_ | refine jB fun _ => ?_ | refine kC (fun _ => ?_) fun _ => ?_ | (apply cx141; refine kl tx141 ?_) | (apply cx142; refine kl tx142 ?_) | (apply cx181; refine kl tx181 ?_) | (apply cx167; refine kl tx167 ?_) | refine jst ?_ | exact ⟨rfl, rfl⟩ | exact jV | fail))
  have e1 := prtB_d h1 h2
  have e0 := prtB_a h1 h2
  rw [h1] at hP
  rw [h2] at hF
  obtain ⟨hs2, hk⟩ := vlOk_e (ftV_e h2).1
  have hft := (ftV_e h2).2
  obtain ⟨col, type, null, desc⟩ := p
  dsimp only at hpn hpf e1 e0 hft
  have hz := @bdy_0 (Prt.mk col type null desc) v
  generalize bdy _ v = Y at *
  rcases hk with hk | hk
  · have hY : bs ++ [0] = bs ++ Y := by rw [hz hk]
    cases desc
    · rw [e0 rfl]
      repeat' ((conv => whnf); (first | (apply cx141; refine kl (hP) ?_) | (apply cx142; refine kl (hF) ?_) | refine Exists.intro _ (Exists.intro (cs true (_ : List UInt8)) (And.intro rfl (And.intro ⟨Nat.le_refl _, bgb (by omega), bg (by omega)⟩ (Exists.intro _ (And.intro ape (Exists.intro _ (And.intro (Nat.zero_add _) ?_))))))) | (apply cx167; refine kl ((flS hY (by simp <;> omega))) ?_) | refine jap (apE (ys := [0]) ?_) | refine k0 ?_ | refine jA fun _ => ?_ | refine jB fun _ => ?_ | refine kC (fun _ => ?_) fun _ => ?_ | (apply cx141; refine kl tx141 ?_) | (apply cx142; refine kl tx142 ?_) | (apply cx181; refine kl tx181 ?_) | (apply cx167; refine kl tx167 ?_) | refine jst ?_ | exact ⟨rfl, rfl⟩ | exact jV | fail))
      all_goals exact ⟨congrArg (fun l => [vE l]) hY, rfl⟩
    · rw [e1 rfl]
      repeat' ((conv => whnf); (first | (apply cx141; refine kl (hP) ?_) | (apply cx142; refine kl (hF) ?_) | refine Exists.intro _ (Exists.intro (cs true (_ : List UInt8)) (And.intro rfl (And.intro ⟨Nat.le_refl _, bgb (by omega), bg (by omega)⟩ (Exists.intro _ (And.intro ape (Exists.intro _ (And.intro (Nat.zero_add _) ?_))))))) | (apply cx167; refine kl ((flS hY (by simp <;> omega))) ?_) | refine jap (apE (ys := [0]) ?_) | refine k0 ?_ | refine jA fun _ => ?_ | refine jB fun _ => ?_ | refine kC (fun _ => ?_) fun _ => ?_ | (apply cx141; refine kl tx141 ?_) | (apply cx142; refine kl tx142 ?_) | (apply cx181; refine kl tx181 ?_) | (apply cx167; refine kl tx167 ?_) | refine jst ?_ | exact ⟨rfl, rfl⟩ | exact jV | fail))
      all_goals exact ⟨congrArg (fun l => [vE l]) hY, rfl⟩
  have hk0 : ¬ v.k = 0 := by omega
  have hl := valB_len (v := v) hs
  cases null
  · have hY : bs ++ valB v = bs ++ Y := by rw [hpf hk0 rfl]
    cases desc
    · rw [e0 rfl]
      repeat' ((conv => whnf); (first | (apply cx141; refine kl (hP) ?_) | (apply cx142; refine kl (hF) ?_) | refine Exists.intro _ (Exists.intro (cs true (_ : List UInt8)) (And.intro rfl (And.intro ⟨Nat.le_refl _, bgb (by omega), bg (by omega)⟩ (Exists.intro _ (And.intro ape (Exists.intro _ (And.intro (Nat.zero_add _) ?_))))))) | (apply cx167; refine kl ((flS hY (by simp <;> omega))) ?_) | refine jap (apE (ys := [1]) ?_) | refine k0 ?_ | refine jA fun _ => ?_ | refine jB fun _ => ?_ | refine kC (fun _ => ?_) fun _ => ?_ | (apply cx141; refine kl tx141 ?_) | (apply cx142; refine kl tx142 ?_) | (apply cx181; refine kl tx181 ?_) | (apply cx167; refine kl tx167 ?_) | refine jst ?_ | exact ⟨rfl, rfl⟩ | exact jV | fail))
      all_goals exact ⟨congrArg (fun l => [vE l]) hY, rfl⟩
    · rw [e1 rfl]
      repeat' ((conv => whnf); (first | (apply cx141; refine kl (hP) ?_) | (apply cx142; refine kl (hF) ?_) | refine Exists.intro _ (Exists.intro (cs true (_ : List UInt8)) (And.intro rfl (And.intro ⟨Nat.le_refl _, bgb (by omega), bg (by omega)⟩ (Exists.intro _ (And.intro ape (Exists.intro _ (And.intro (Nat.zero_add _) ?_))))))) | (apply cx167; refine kl ((flS hY (by simp <;> omega))) ?_) | refine jap (apE (ys := [1]) ?_) | refine k0 ?_ | refine jA fun _ => ?_ | refine jB fun _ => ?_ | refine kC (fun _ => ?_) fun _ => ?_ | (apply cx141; refine kl tx141 ?_) | (apply cx142; refine kl tx142 ?_) | (apply cx181; refine kl tx181 ?_) | (apply cx167; refine kl tx167 ?_) | refine jst ?_ | exact ⟨rfl, rfl⟩ | exact jV | fail))
      all_goals exact ⟨congrArg (fun l => [vE l]) hY, rfl⟩
  · have hY : bs ++ [1] ++ valB v = bs ++ Y := by rw [hpn hk0 rfl]; simp
    cases desc
    · rw [e0 rfl]
      repeat' ((conv => whnf); (first | (apply cx141; refine kl (hP) ?_) | (apply cx142; refine kl (hF) ?_) | refine Exists.intro _ (Exists.intro (cs true (_ : List UInt8)) (And.intro rfl (And.intro ⟨Nat.le_refl _, bgb (by omega), bg (by omega)⟩ (Exists.intro _ (And.intro ape (Exists.intro _ (And.intro (Nat.zero_add _) ?_))))))) | (apply cx167; refine kl ((flS hY (by simp <;> omega))) ?_) | refine jap (apE (ys := [1]) ?_) | refine k0 ?_ | refine jA fun _ => ?_ | refine jB fun _ => ?_ | refine kC (fun _ => ?_) fun _ => ?_ | (apply cx141; refine kl tx141 ?_) | (apply cx142; refine kl tx142 ?_) | (apply cx181; refine kl tx181 ?_) | (apply cx167; refine kl tx167 ?_) | refine jst ?_ | exact ⟨rfl, rfl⟩ | exact jV | fail))
      all_goals exact ⟨congrArg (fun l => [vE l]) hY, rfl⟩
    · rw [e1 rfl]
      repeat' ((conv => whnf); (first | (apply cx141; refine kl (hP) ?_) | (apply cx142; refine kl (hF) ?_) | refine Exists.intro _ (Exists.intro (cs true (_ : List UInt8)) (And.intro rfl (And.intro ⟨Nat.le_refl _, bgb (by omega), bg (by omega)⟩ (Exists.intro _ (And.intro ape (Exists.intro _ (And.intro (Nat.zero_add _) ?_))))))) | (apply cx167; refine kl ((flS hY (by simp <;> omega))) ?_) | refine jap (apE (ys := [1]) ?_) | refine k0 ?_ | refine jA fun _ => ?_ | refine jB fun _ => ?_ | refine kC (fun _ => ?_) fun _ => ?_ | (apply cx141; refine kl tx141 ?_) | (apply cx142; refine kl tx142 ?_) | (apply cx181; refine kl tx181 ?_) | (apply cx167; refine kl tx167 ?_) | refine jst ?_ | exact ⟨rfl, rfl⟩ | exact jV | fail))
      all_goals exact ⟨congrArg (fun l => [vE l]) hY, rfl⟩

theorem cx165 {P : Program} {X : FuncId → List Arg → List (Bool × List Cell) → List (Option (List Cell)) → Prop} {a : List Arg} {Q : List (Bool × List Cell) → List (Option (List Cell)) → Prop} (h : ∃ b vals outs, a = b ∧ D P X (.call 165 b vals outs) ∧ Q vals outs) : CallS P X 165 a Q := ⟨h⟩

end Go.Proofs.YtopnaijeicknoaaGreatDoor
