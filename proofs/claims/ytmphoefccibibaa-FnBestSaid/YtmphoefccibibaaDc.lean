/- Functions of the program, each with what it gives back. -/
import Derived.Test.YtmphoefccibibaaKe
import Derived.Test.YtmphoefccibibaaChecked
import Derived.IntWalk
import Derived.Test.YtmphoefccibibaaDb
import Derived.Test.YtmphoefccibibaaFy
import Derived.Test.YtmphoefccibibaaGz
import Derived.Test.YtmphoefccibibaaFj
namespace Go.Proofs.Ytmphoefccibibaa
open Go Go.RowKit Go.IntWalk
open Enc (sz cs)
attribute [local irreducible] IntKind.wrap

/-! ### Drawn faults -/
attribute [local irreducible] byC blC inC bysC smC
abbrev fuX (c : Cur) : List Int := [0, 1, 2, 3, 5, 7, 1048575, ((blC c 64).1 : Nat)]
def fuK (c : Cur) : Int × Cur := inC (blC c 64).2 (fuX c)
theorem fuK_ok {c : Cur} (h : CurOk c) : CurOk (fuK c).2 := inC_ok (blC_ok h)
theorem fuK_b (c : Cur) : 0 ≤ (fuK c).1 ∧ (fuK c).1 ≤ 1048575 := by
  have h1 := inC_mem (c := (blC c 64).2) (l := fuX c) (Nat.succ_pos _)
  have h2 := blC_lt (c := c) (n := 64) (by decide)
  unfold fuK
  simp only [fuX, List.mem_cons, List.mem_nil_iff, or_false] at h1 ⊢
  omega
def fuT (c : Cur) : Int × Cur := inC c [0, 1, 5, 20, 256]
theorem fuT_ok {c : Cur} (h : CurOk c) : CurOk (fuT c).2 := inC_ok h
theorem fuT_b (c : Cur) : 0 ≤ (fuT c).1 ∧ (fuT c).1 ≤ 256 := by
  have h1 := inC_mem (c := c) (l := [0, 1, 5, 20, 256]) (by decide)
  unfold fuT
  simp only [List.mem_cons, List.mem_nil_iff, or_false] at h1
  omega
attribute [local irreducible] fuK fuT
structure FuS where
  l : List Fau
  p : Nat
  c : Cur
/-- One drawn fault more. -/
def fuN (s : FuS) : FuS := ⟨s.l ++ [⟨((s.p + (blC s.c 12).1 : Nat) : Int), (fuK (blC s.c 12).2).1, (fuT (fuK (blC s.c 12).2).2).1⟩], s.p + (blC s.c 12).1 + 1, (fuT (fuK (blC s.c 12).2).2).2⟩
def fuI (c : Cur) : Nat → FuS
  | 0 => ⟨[], 0, c⟩
  | n + 1 => fuN (fuI c n)
theorem fuI_len {c : Cur} : ∀ {n : Nat}, (fuI c n).l.length = n
  | 0 => rfl
  | n + 1 => by simp only [fuI, fuN, List.length_append, List.length_singleton]; rw [fuI_len]
theorem fuI_c {c : Cur} (h : CurOk c) : ∀ {n : Nat}, CurOk (fuI c n).c
  | 0 => h
  | n + 1 => fuT_ok (fuK_ok (blC_ok (fuI_c h)))
theorem fuI_p {c : Cur} : ∀ {n : Nat}, (fuI c n).p ≤ 12 * n
  | 0 => Nat.le_refl _
  | n + 1 => by
    have h1 := fuI_p (c := c) (n := n)
    have h2 := blC_lt (c := (fuI c n).c) (n := 12) (by decide)
    simp only [fuI, fuN]; omega
theorem fuI_ok {c : Cur} : ∀ {n : Nat}, n ≤ 20 → FauOk (fuI c n).l ∧ ∀ i (h : i < (fuI c n).l.length), (fuI c n).l[i].pos < (fuI c n).p
  | 0, _ => ⟨⟨by simp [fuI], fun i h => by simp [fuI] at h⟩, fun i h => by simp [fuI] at h⟩
  | n + 1, hn => by
    obtain ⟨h1, h2⟩ := fuI_ok (c := c) (n := n) (by omega)
    have hl := fuI_len (c := c) (n := n)
    have hp := fuI_p (c := c) (n := n)
    have hb := blC_lt (c := (fuI c n).c) (n := 12) (by decide)
    have hk := fuK_b (blC (fuI c n).c 12).2
    have ht := fuT_b (fuK (blC (fuI c n).c 12).2).2
    have key : ∀ i (h : i < (fuI c (n + 1)).l.length), (fuI c (n + 1)).l[i].pos < (fuI c (n + 1)).p := fun i hi => by
      have hl2 := fuI_len (c := c) (n := n + 1)
      by_cases e : i < (fuI c n).l.length
      · have := h2 i e
        simp only [fuI, fuN]
        rw [List.getElem_append_left e]; omega
      · simp only [fuI, fuN]
        rw [List.getElem_append_right (by omega)]
        simp only [List.getElem_singleton]; omega
    refine ⟨⟨by rw [fuI_len]; omega, fun i hi => ?_⟩, key⟩
    have hl2 := fuI_len (c := c) (n := n + 1)
    by_cases e : i < (fuI c n).l.length
    · have := h1.fau i e
      have e1 : (fuI c (n + 1)).l[i] = (fuI c n).l[i] := by simp only [fuI, fuN]; rw [List.getElem_append_left e]
      have e2 : ∀ h', (fuI c (n + 1)).l[i - 1]'h' = (fuI c n).l[i - 1]'(by omega) := fun h' => by simp only [fuI, fuN]; rw [List.getElem_append_left]
      rw [e1]
      refine ⟨this.1, this.2.1, this.2.2.1, this.2.2.2.1, this.2.2.2.2.1, this.2.2.2.2.2.1, fun q => ?_⟩
      rw [e2]; exact this.2.2.2.2.2.2 q
    · have e1 : (fuI c (n + 1)).l[i] = ⟨(((fuI c n).p + (blC (fuI c n).c 12).1 : Nat) : Int), (fuK (blC (fuI c n).c 12).2).1, (fuT (fuK (blC (fuI c n).c 12).2).2).1⟩ := by
        simp only [fuI, fuN]; rw [List.getElem_append_right (by omega)]; simp only [List.getElem_singleton]
      rw [e1]
      refine ⟨by simp only; omega, by simp only; omega, hk.1, hk.2, ht.1, ht.2, fun q => ?_⟩
      have e2 : ∀ h', (fuI c (n + 1)).l[i - 1]'h' = (fuI c n).l[i - 1]'(by omega) := fun h' => by simp only [fuI, fuN]; rw [List.getElem_append_left]
      rw [e2]
      have := h2 (i - 1) (by omega)
      simp only; omega
/-- Drawn faults. -/
def ftC (c : Cur) : List Fau × Cur := ((fuI (blC c 4).2 (blC c 4).1).l, (fuI (blC c 4).2 (blC c 4).1).c)
theorem ftC_ok {c : Cur} (h : CurOk c) : CurOk (ftC c).2 := fuI_c (blC_ok h)
theorem ftC_fau {c : Cur} : FauOk (ftC c).1 := (fuI_ok (by have := blC_lt (c := c) (n := 4) (by decide); omega)).1
theorem ftC_len {c : Cur} : (ftC c).1.length ≤ 3 := by
  have := blC_lt (c := c) (n := 4) (by decide)
  unfold ftC; rw [fuI_len]; omega
theorem fau_app {l : List Fau} {p k t : Int} : cs true l ++ [i6 p, i6 k, i6 t] ++ [] = cs true (l ++ [⟨p, k, t⟩]) := by
  rw [Enc.app, List.append_nil]; rfl

set_option maxRecDepth 100000 in
theorem tx41 {c : Cur} (hc : CurOk c := by first | assumption | omega | (simp; done) | (simp; omega)) : T 41 [aC c] [vE (ftC c).1] [some (cuC (ftC c).2)] := by
  refine w_call md [] Try.func41 rfl ?_
  have h4 := blC_lt (c := c) (n := 4) (by decide)
  have hb := blC_ok (n := 4) hc
  obtain ⟨n, hn⟩ : ∃ n, (blC c 4).1 = n := ⟨_, rfl⟩
  have e : ftC c = ((fuI (blC c 4).2 n).l, (fuI (blC c 4).2 n).c) := by unfold ftC; rw [hn]
  have hB : T 30 [aC c, aI 4] [vI (n : Int)] [some (cuC (blC c 4).2), none] := by
    have h := tx30 (c := c) (n := 4)
    rw [hn] at h; exact h
  rw [e]
  repeat' ((conv => whnf); (first | (apply cx30; refine kl (hB) ?_) | refine k0 ?_ | refine jA fun _ => ?_ | refine jB fun _ => ?_ | refine kC (fun _ => ?_) fun _ => ?_ | refine jS ?_ | refine jI ?_ | (apply cx30; refine kl tx30 ?_) | (apply cx31; refine kl tx31 ?_) | refine jD ?_ | refine ⟨snc, _, snr, ?_⟩ | refine ⟨⟨Nat.le_refl _, rfl⟩, [], rfl, ?_⟩ | refine And.intro ⟨rfl, rfl, by decide, rfl⟩ ?_ | refine jP ?_ | refine jO ?_ | refine jX ?_ | refine jb jr ?_ | refine jb ofs ?_ | refine ko jc ?_ | refine ko jp ?_ | refine jM ?_ | refine kr ?_ | refine ko rfl ?_ | refine And.intro (cs_shal _) ?_ | refine And.intro (rfl : List.all _ _ = true) ?_ | refine And.intro ⟨rfl, (rfl : List.all _ _ = true)⟩ ?_ | exact ⟨rfl, rfl⟩ | exact jV | fail))
  conv => whnf
  refine loopk (ι := Nat) (fun i => i ≤ n) (fun i => n - i) (0) [0] (fun i => [(3, .v false [.ref 1 0 (fuI (blC c 4).2 i).l.length 3]), (4, .v false [i6 (fuI (blC c 4).2 i).p]), (5, .v false [i6 ((n : Int) - i)])]) [some fun i => (true, cuC (fuI (blC c 4).2 i).c), some fun i => nE (fuI (blC c 4).2 i).l] ?_
  refine ⟨by omega, ?_, fun i hi => ?_⟩
  · exact jw []
  · have hl := fuI_len (c := (blC c 4).2) (n := i)
    have hp := fuI_p (c := (blC c 4).2) (n := i)
    have hk := fuI_c hb (n := i)
    have hk1 := blC_ok (n := 12) hk
    have hb1 := blC_lt (c := (fuI (blC c 4).2 i).c) (n := 12) (by decide)
    have hk2 := blC_ok (n := 64) hk1
    have hb2 := blC_lt (c := (blC (fuI (blC c 4).2 i).c 12).2) (n := 64) (by decide)
    have hk3 := fuK_ok hk1
    repeat' ((conv => whnf); (first | refine k0 ?_ | refine jS ?_ | refine jI ?_ | (apply cx30; refine kl tx30 ?_) | (apply cx31; refine kl tx31 ?_) | refine jD ?_ | refine ⟨snc, _, snr, ?_⟩ | refine ⟨⟨Nat.le_refl _, rfl⟩, [], rfl, ?_⟩ | refine And.intro ⟨rfl, rfl, by decide, rfl⟩ ?_ | refine jP ?_ | refine jO ?_ | refine jX ?_ | refine jb jr ?_ | refine jb ofs ?_ | refine ko jc ?_ | refine ko jp ?_ | refine jM ?_ | refine kr ?_ | refine ko rfl ?_ | refine And.intro (cs_shal _) ?_ | refine And.intro (rfl : List.all _ _ = true) ?_ | refine And.intro ⟨rfl, (rfl : List.all _ _ = true)⟩ ?_ | exact ⟨rfl, rfl⟩ | exact jV | fail))
    conv => whnf
    refine ⟨fun hlt => ?_, fun hge => ?_⟩
    · have hK : T 31 [aC (blC (blC (fuI (blC c 4).2 i).c 12).2 64).2, aO (fuX (blC (fuI (blC c 4).2 i).c 12).2)] [vI (fuK (blC (fuI (blC c 4).2 i).c 12).2).1] [some (cuC (fuK (blC (fuI (blC c 4).2 i).c 12).2).2), some (cs true (fuX (blC (fuI (blC c 4).2 i).c 12).2))] := by
        unfold fuK; exact tx31 (c := (blC (blC (fuI (blC c 4).2 i).c 12).2 64).2) (l := fuX (blC (fuI (blC c 4).2 i).c 12).2) hk2 ⟨Nat.succ_pos _, by show 8 ≤ 1000; decide⟩
      have hT : T 31 [aC (fuK (blC (fuI (blC c 4).2 i).c 12).2).2, aO ([0, 1, 5, 20, 256] : List Int)] [vI (fuT (fuK (blC (fuI (blC c 4).2 i).c 12).2).2).1] [some (cuC (fuT (fuK (blC (fuI (blC c 4).2 i).c 12).2).2).2), some (cs true ([0, 1, 5, 20, 256] : List Int))] := by
        unfold fuT; exact tx31 (c := (fuK (blC (fuI (blC c 4).2 i).c 12).2).2) (l := [0, 1, 5, 20, 256]) hk3 (by decide)
      repeat' ((conv => whnf); (first | (apply cx30; refine kl (tx30 (c := (fuI (blC c 4).2 i).c) (n := 12)) ?_) | (apply cx30; refine kl (tx30 (c := (blC (fuI (blC c 4).2 i).c 12).2) (n := 64)) ?_) | (apply cx31; refine kl (hK) ?_) | (apply cx31; refine kl (hT) ?_) | refine And.intro ⟨rfl, rfl, rfl⟩ ?_ | refine jap (N := cs true ([⟨(((fuI (blC c 4).2 i).p + (blC (fuI (blC c 4).2 i).c 12).1 : Nat) : Int), (fuK (blC (fuI (blC c 4).2 i).c 12).2).1, (fuT (fuK (blC (fuI (blC c 4).2 i).c 12).2).2).1⟩] : List Fau)) (apE ?_) | refine k0 ?_ | refine jA fun _ => ?_ | refine jB fun _ => ?_ | refine kC (fun _ => ?_) fun _ => ?_ | refine jS ?_ | refine jI ?_ | (apply cx30; refine kl tx30 ?_) | (apply cx31; refine kl tx31 ?_) | refine jD ?_ | refine ⟨snc, _, snr, ?_⟩ | refine ⟨⟨Nat.le_refl _, rfl⟩, [], rfl, ?_⟩ | refine And.intro ⟨rfl, rfl, by decide, rfl⟩ ?_ | refine jP ?_ | refine jO ?_ | refine jX ?_ | refine jb jr ?_ | refine jb ofs ?_ | refine ko jc ?_ | refine ko jp ?_ | refine jM ?_ | refine kr ?_ | refine ko rfl ?_ | refine And.intro (cs_shal _) ?_ | refine And.intro (rfl : List.all _ _ = true) ?_ | refine And.intro ⟨rfl, (rfl : List.all _ _ = true)⟩ ?_ | exact ⟨rfl, rfl⟩ | exact jV | fail))
      refine ⟨⟨i + 1, by omega⟩, by simp only; omega, ?_⟩
      exact jw []
    · obtain rfl : i = n := by omega
      repeat' ((conv => whnf); (first | refine k0 ?_ | refine jA fun _ => ?_ | refine jB fun _ => ?_ | refine kC (fun _ => ?_) fun _ => ?_ | refine jS ?_ | refine jI ?_ | (apply cx30; refine kl tx30 ?_) | (apply cx31; refine kl tx31 ?_) | refine jD ?_ | refine ⟨snc, _, snr, ?_⟩ | refine ⟨⟨Nat.le_refl _, rfl⟩, [], rfl, ?_⟩ | refine And.intro ⟨rfl, rfl, by decide, rfl⟩ ?_ | refine jP ?_ | refine jO ?_ | refine jX ?_ | refine jb jr ?_ | refine jb ofs ?_ | refine ko jc ?_ | refine ko jp ?_ | refine jM ?_ | refine kr ?_ | refine ko rfl ?_ | refine And.intro (cs_shal _) ?_ | refine And.intro (rfl : List.all _ _ = true) ?_ | refine And.intro ⟨rfl, (rfl : List.all _ _ = true)⟩ ?_ | exact ⟨rfl, rfl⟩ | exact jV | fail))

theorem cx41 {P : Program} {X : FuncId → List Arg → List (Bool × List Cell) → List (Option (List Cell)) → Prop} {a : List Arg} {Q : List (Bool × List Cell) → List (Option (List Cell)) → Prop} (h : ∃ b vals outs, a = b ∧ D P X (.call 41 b vals outs) ∧ Q vals outs) : CallS P X 41 a Q := ⟨h⟩

/-! ### Drawn disks -/
attribute [local irreducible] ftC wrD flD
abbrev DC := Dsk × Cur
/-- What a drawn disk goes through. -/
def dwS (q : DC) : DC :=
  if (blC q.2 5).1 = 0 then ((flD q.1).1, (blC q.2 5).2) else
  if (blC q.2 5).1 = 1 then ({ q.1 with down := false }, (blC q.2 5).2) else
  ((wrD q.1 (blC (blC q.2 5).2 q.1.secs.length).1 (smC (blC (blC q.2 5).2 q.1.secs.length).2).1).1, (smC (blC (blC q.2 5).2 q.1.secs.length).2).2)
theorem dwS_0 {q : DC} (h : (blC q.2 5).1 = 0) : dwS q = ((flD q.1).1, (blC q.2 5).2) := if_pos h
theorem dwS_1 {q : DC} (h0 : ¬ (blC q.2 5).1 = 0) (h : (blC q.2 5).1 = 1) : dwS q = ({ q.1 with down := false }, (blC q.2 5).2) := by unfold dwS; rw [if_neg h0, if_pos h]
theorem dwS_2 {q : DC} (h0 : ¬ (blC q.2 5).1 = 0) (h : ¬ (blC q.2 5).1 = 1) : dwS q = ((wrD q.1 (blC (blC q.2 5).2 q.1.secs.length).1 (smC (blC (blC q.2 5).2 q.1.secs.length).2).1).1, (smC (blC (blC q.2 5).2 q.1.secs.length).2).2) := by unfold dwS; rw [if_neg h0, if_neg h]
structure DwOk (q : DC) (i : Nat) : Prop where
  ok : DskOk q.1
  cur : CurOk q.2
  cache : q.1.cache.length ≤ i
theorem dwS_ok {q : DC} {i : Nat} (hi : i < 59) (h : DwOk q i) : DwOk (dwS q) (i + 1) ∧ (dwS q).1.secs.length = q.1.secs.length := by
  have h5 := blC_ok (n := 5) h.cur
  have hs := h.ok.secs
  have hca := h.cache
  by_cases c0 : (blC q.2 5).1 = 0
  · rw [dwS_0 c0]
    have hf := (flD_ok h.ok).1
    exact ⟨⟨hf.ok, h5, by have := hf.cache; simp only; omega⟩, hf.secs⟩
  · by_cases c1 : (blC q.2 5).1 = 1
    · rw [dwS_1 c0 c1]
      exact ⟨⟨.mk' h.ok.secs h.ok.cache h.ok.ops h.ok.faults (fun e => by cases e) h.ok.sec' h.ok.wri' h.ok.fau, h5, by simp only; omega⟩, rfl⟩
    · rw [dwS_2 c0 c1]
      have hb := blC_lt (c := (blC q.2 5).2) (n := q.1.secs.length) (by omega)
      have hl := smC_len (c := (blC (blC q.2 5).2 q.1.secs.length).2)
      have hw := wrD_ok (n := ((blC (blC q.2 5).2 q.1.secs.length).1 : Nat)) (b := (smC (blC (blC q.2 5).2 q.1.secs.length).2).1) h.ok (by omega) (by omega) (by omega)
      exact ⟨⟨hw.ok, smC_ok (blC_ok h5), by have := hw.cache; simp only; omega⟩, hw.secs⟩
noncomputable def dw0 (c : Cur) : DC := (dskB (4 + (blC c 4).1) [] (ftC (blC c 4).2).1, (blC (ftC (blC c 4).2).2 12).2)
def dwI (q : DC) : Nat → DC
  | 0 => q
  | n + 1 => dwS (dwI q n)
theorem dw0_ok {c : Cur} (h : CurOk c) : DwOk (dw0 c) 0 := by
  have := blC_lt (c := c) (n := 4) (by decide)
  exact ⟨(dskB_ok (by omega) (by omega) (Nat.zero_le _)).2 ftC_fau, blC_ok (ftC_ok (blC_ok h)), Nat.zero_le _⟩
theorem dw0_secs {c : Cur} : (dw0 c).1.secs.length ≤ 7 := by
  have := blC_lt (c := c) (n := 4) (by decide)
  simp [dw0]; omega
theorem dwI_ok {c : Cur} (h : CurOk c) : ∀ {n : Nat}, n ≤ 50 → DwOk (dwI (dw0 c) n) n ∧ (dwI (dw0 c) n).1.secs.length = (dw0 c).1.secs.length
  | 0, _ => ⟨dw0_ok h, rfl⟩
  | n + 1, hn => by
    have h1 := dwI_ok h (n := n) (by omega)
    have h2 := dwS_ok (by omega) h1.1
    exact ⟨h2.1, h2.2.trans h1.2⟩
noncomputable def dwC (c : Cur) : DC := dwI (dw0 c) (blC (ftC (blC c 4).2).2 12).1
theorem dwC_ok {c : Cur} (h : CurOk c) : DwOk (dwC c) 11 := by
  have := blC_lt (c := (ftC (blC c 4).2).2) (n := 12) (by decide)
  have h1 := (dwI_ok h (n := (blC (ftC (blC c 4).2).2 12).1) (by omega)).1
  exact ⟨h1.ok, h1.cur, by have := h1.cache; show (dwI _ _).1.cache.length ≤ 11; omega⟩
attribute [local irreducible] dwS

set_option maxRecDepth 100000 in
theorem tx29 {c : Cur} (hc : CurOk c := by first | assumption | omega | (simp; done) | (simp; omega)) : T 29 [aC c] [(true, dskC true (dwC c).1)] [some (cuC (dwC c).2)] := by
  refine w_call md [] Try.func29 rfl ?_
  have h4 := blC_lt (c := c) (n := 4) (by decide)
  have k1 := blC_ok (n := 4) hc
  have k2 := ftC_ok k1
  have k3 := blC_ok (n := 12) k2
  have hfl := ftC_len (c := (blC c 4).2)
  have h12 := blC_lt (c := (ftC (blC c 4).2).2) (n := 12) (by decide)
  obtain ⟨n, hn⟩ : ∃ n, (blC (ftC (blC c 4).2).2 12).1 = n := ⟨_, rfl⟩
  have hD : T 28 [aI (4 + ((blC c 4).1 : Nat)), aE (ftC (blC c 4).2).1] [(true, dskC true (dw0 c).1)] [none, none] := by
    have h := tx28 (n := ((4 + (blC c 4).1 : Nat) : Int)) (l := (ftC (blC c 4).2).1) (by omega)
    rw [newD_yes ⟨by omega, by omega, ftC_fau⟩, Int.toNat_natCast, Int.natCast_add] at h; exact h
  have hB : T 30 [aC (ftC (blC c 4).2).2, aI 12] [vI (n : Int)] [some (cuC (dw0 c).2), none] := by
    have h := tx30 (c := (ftC (blC c 4).2).2) (n := 12)
    rw [hn] at h; exact h
  have e : dwC c = dwI (dw0 c) n := by unfold dwC; rw [hn]
  rw [e]
  generalize hq : dw0 c = q0 at *
  repeat' ((conv => whnf); (first | (apply cx30; refine kl (tx30 (c := c) (n := 4)) ?_) | (apply cx41; refine kl (tx41 (c := (blC c 4).2)) ?_) | (apply cx28; refine kl (hD) ?_) | (apply cx30; refine kl (hB) ?_) | refine k0 ?_ | refine jA fun _ => ?_ | refine jB fun _ => ?_ | refine kC (fun _ => ?_) fun _ => ?_ | refine jS ?_ | refine jI ?_ | (apply cx30; refine kl tx30 ?_) | (apply cx41; refine kl tx41 ?_) | (apply cx28; refine kl tx28 ?_) | (apply cx47; refine kl tx47 ?_) | (apply cx32; refine kl tx32 ?_) | (apply cx48; refine kl tx48 ?_) | refine jD ?_ | refine ⟨snc, _, snr, ?_⟩ | refine ⟨⟨Nat.le_refl _, rfl⟩, [], rfl, ?_⟩ | refine And.intro ⟨rfl, rfl, by decide, rfl⟩ ?_ | refine jP ?_ | refine jO ?_ | refine jX ?_ | refine jb jr ?_ | refine jb ofs ?_ | refine ko jc ?_ | refine ko jp ?_ | refine jM ?_ | refine kr ?_ | refine ko rfl ?_ | refine And.intro (cs_shal _) ?_ | refine And.intro (rfl : List.all _ _ = true) ?_ | refine And.intro ⟨rfl, (rfl : List.all _ _ = true)⟩ ?_ | exact ⟨rfl, rfl⟩ | exact jV | fail))
  conv => whnf
  refine loopk (ι := Nat) (fun i => i ≤ n) (fun i => n - i) (0) [0, 2] (fun i => [(3, .v false [.ptr 2 0]), (4, .v false [i6 ((n : Int) - i)])]) [some fun i => (true, cuC (dwI q0 i).2), none, some fun i => (true, dskC true (dwI q0 i).1)] ?_
  refine ⟨by omega, ?_, fun i hi => ?_⟩
  · exact ((w_inE 6 3 [] q0.1.secs [.ref 4 0 q0.1.cache.length 2, i6 q0.1.ops, .ref 5 0 q0.1.faults.length 3, b1 q0.1.down] q0.1.secs.length 1 rfl).trans ((w_inE 6 4 [slE true q0.1.secs] q0.1.cache [i6 q0.1.ops, .ref 5 0 q0.1.faults.length 3, b1 q0.1.down] q0.1.cache.length 2 rfl).trans (w_inE 6 5 [slE true q0.1.secs, slE true q0.1.cache, i6 q0.1.ops] q0.1.faults [b1 q0.1.down] q0.1.faults.length 3 rfl))).trans (w_autoX [] (by (conv => whnf); exact And.intro (by kernel_rfl) (And.intro (by kernel_rfl) (by repeat' (first | (with_reducible exact rfl) | ((conv => whnf); first | exact trivial | exact ⟨rfl, clo_dsk, rfl⟩ | exact ⟨rfl, clo_sl rfl, rfl⟩ | exact rfl | exact tvi (by first | omega | (dsimp only; omega) | (simp; done)) | exact tvr (by first | omega | (dsimp only; omega) | (simp; done) | (simp; omega)) | exact ⟨rfl, clo_i, by first | rfl | rw [List.take_length] | assumption⟩ | refine And.intro ?_ ?_))))))
  · have hw := dwI_ok hc (n := i) (by omega)
    rw [hq] at hw
    obtain ⟨hw, hws⟩ := hw
    have hsm := hw.ok.small
    have hsz := hw.ok.secs
    have hcu := hw.cur
    have hca := hw.cache
    have hk := blC_ok (n := 5) hcu
    have hcut := hw.ok.cut'
    have hop := hw.ok.ops
    have hn' : ∀ w ∈ (dwI q0 i).1.cache, 0 ≤ w.n ∧ w.n < (dwI q0 i).1.secs.length := fun w h => ⟨(hw.ok.wri' w h).1, (hw.ok.wri' w h).2.1⟩
    repeat' ((conv => whnf); (first | refine k0 ?_ | refine jS ?_ | refine jI ?_ | (apply cx30; refine kl tx30 ?_) | (apply cx41; refine kl tx41 ?_) | (apply cx28; refine kl tx28 ?_) | (apply cx47; refine kl tx47 ?_) | (apply cx32; refine kl tx32 ?_) | (apply cx48; refine kl tx48 ?_) | refine jD ?_ | refine ⟨snc, _, snr, ?_⟩ | refine ⟨⟨Nat.le_refl _, rfl⟩, [], rfl, ?_⟩ | refine And.intro ⟨rfl, rfl, by decide, rfl⟩ ?_ | refine jP ?_ | refine jO ?_ | refine jX ?_ | refine jb jr ?_ | refine jb ofs ?_ | refine ko jc ?_ | refine ko jp ?_ | refine jM ?_ | refine kr ?_ | refine ko rfl ?_ | refine And.intro (cs_shal _) ?_ | refine And.intro (rfl : List.all _ _ = true) ?_ | refine And.intro ⟨rfl, (rfl : List.all _ _ = true)⟩ ?_ | exact ⟨rfl, rfl⟩ | exact jV | fail))
    conv => whnf
    refine ⟨fun hlt => ?_, fun hge => ?_⟩
    · by_cases c0 : (blC (dwI q0 i).2 5).1 = 0
      · have e2 : dwI q0 (i + 1) = ((flD (dwI q0 i).1).1, (blC (dwI q0 i).2 5).2) := dwS_0 c0
        repeat' ((conv => whnf); (first | (apply cx30; refine kl (tx30 (c := (dwI q0 i).2) (n := 5)) ?_) | (apply cx47; refine kl (tx47 (d := (dwI q0 i).1)) ?_) | refine k0 ?_ | refine jA fun _ => ?_ | refine jB fun _ => ?_ | refine kC (fun _ => ?_) fun _ => ?_ | refine jS ?_ | refine jI ?_ | (apply cx30; refine kl tx30 ?_) | (apply cx41; refine kl tx41 ?_) | (apply cx28; refine kl tx28 ?_) | (apply cx47; refine kl tx47 ?_) | (apply cx32; refine kl tx32 ?_) | (apply cx48; refine kl tx48 ?_) | refine jD ?_ | refine ⟨snc, _, snr, ?_⟩ | refine ⟨⟨Nat.le_refl _, rfl⟩, [], rfl, ?_⟩ | refine And.intro ⟨rfl, rfl, by decide, rfl⟩ ?_ | refine jP ?_ | refine jO ?_ | refine jX ?_ | refine jb jr ?_ | refine jb ofs ?_ | refine ko jc ?_ | refine ko jp ?_ | refine jM ?_ | refine kr ?_ | refine ko rfl ?_ | refine And.intro (cs_shal _) ?_ | refine And.intro (rfl : List.all _ _ = true) ?_ | refine And.intro ⟨rfl, (rfl : List.all _ _ = true)⟩ ?_ | exact ⟨rfl, rfl⟩ | exact jV | fail))
        refine ⟨⟨i + 1, by omega⟩, by simp only; omega, ?_⟩
        exact w_autoX [] (by (conv => whnf); exact And.intro (by kernel_rfl) (And.intro (by kernel_rfl) (by repeat' (first | (with_reducible exact rfl) | ((conv => whnf); first | exact trivial | exact (by rw [e2]; exact ⟨rfl, clo_sl rfl, rfl⟩) | exact (by rw [e2]; exact ⟨rfl, clo_dsk, rfl⟩) | exact rfl | exact tvi (by first | omega | (dsimp only; omega) | (simp; done)) | exact tvr (by first | omega | (dsimp only; omega) | (simp; done) | (simp; omega)) | exact ⟨rfl, clo_i, by first | rfl | rw [List.take_length] | assumption⟩ | refine And.intro ?_ ?_)))))
      · by_cases c1 : (blC (dwI q0 i).2 5).1 = 1
        · have e2 : dwI q0 (i + 1) = ({ (dwI q0 i).1 with down := false }, (blC (dwI q0 i).2 5).2) := dwS_1 c0 c1
          repeat' ((conv => whnf); (first | (apply cx30; refine kl (tx30 (c := (dwI q0 i).2) (n := 5)) ?_) | refine k0 ?_ | refine jA fun _ => ?_ | refine jB fun _ => ?_ | refine kC (fun _ => ?_) fun _ => ?_ | refine jS ?_ | refine jI ?_ | (apply cx30; refine kl tx30 ?_) | (apply cx41; refine kl tx41 ?_) | (apply cx28; refine kl tx28 ?_) | (apply cx47; refine kl tx47 ?_) | (apply cx32; refine kl tx32 ?_) | (apply cx48; refine kl tx48 ?_) | refine jD ?_ | refine ⟨snc, _, snr, ?_⟩ | refine ⟨⟨Nat.le_refl _, rfl⟩, [], rfl, ?_⟩ | refine And.intro ⟨rfl, rfl, by decide, rfl⟩ ?_ | refine jP ?_ | refine jO ?_ | refine jX ?_ | refine jb jr ?_ | refine jb ofs ?_ | refine ko jc ?_ | refine ko jp ?_ | refine jM ?_ | refine kr ?_ | refine ko rfl ?_ | refine And.intro (cs_shal _) ?_ | refine And.intro (rfl : List.all _ _ = true) ?_ | refine And.intro ⟨rfl, (rfl : List.all _ _ = true)⟩ ?_ | exact ⟨rfl, rfl⟩ | exact jV | fail))
          refine ⟨⟨i + 1, by omega⟩, by simp only; omega, ?_⟩
          exact w_autoX [] (by (conv => whnf); exact And.intro (by kernel_rfl) (And.intro (by kernel_rfl) (by repeat' (first | (with_reducible exact rfl) | ((conv => whnf); first | exact trivial | exact (by rw [e2]; exact ⟨rfl, clo_sl rfl, rfl⟩) | exact (by rw [e2]; exact ⟨rfl, clo_dsk, rfl⟩) | exact rfl | exact tvi (by first | omega | (dsimp only; omega) | (simp; done)) | exact tvr (by first | omega | (dsimp only; omega) | (simp; done) | (simp; omega)) | exact ⟨rfl, clo_i, by first | rfl | rw [List.take_length] | assumption⟩ | refine And.intro ?_ ?_)))))
        · have e2 : dwI q0 (i + 1) = _ := dwS_2 c0 c1
          repeat' ((conv => whnf); (first | refine jA fun _ => ?_ | refine jB fun _ => ?_ | refine kC (fun _ => ?_) fun _ => ?_ | refine jS ?_ | refine jI ?_ | (apply cx30; refine kl tx30 ?_) | (apply cx41; refine kl tx41 ?_) | (apply cx28; refine kl tx28 ?_) | (apply cx47; refine kl tx47 ?_) | (apply cx32; refine kl tx32 ?_) | (apply cx48; refine kl tx48 ?_) | refine jD ?_ | refine ⟨snc, _, snr, ?_⟩ | refine ⟨⟨Nat.le_refl _, rfl⟩, [], rfl, ?_⟩ | refine And.intro ⟨rfl, rfl, by decide, rfl⟩ ?_ | refine jP ?_ | refine jO ?_ | refine jX ?_ | refine jb jr ?_ | refine jb ofs ?_ | refine ko jc ?_ | refine ko jp ?_ | refine jM ?_ | refine kr ?_ | refine ko rfl ?_ | refine And.intro (cs_shal _) ?_ | refine And.intro (rfl : List.all _ _ = true) ?_ | refine And.intro ⟨rfl, (rfl : List.all _ _ = true)⟩ ?_ | exact ⟨rfl, rfl⟩ | exact jV | fail))
          conv => whnf
          refine bstep (w_outE 2 [] (dwI q0 i).1.secs [slE true (dwI q0 i).1.cache, i6 (dwI q0 i).1.ops, slE true (dwI q0 i).1.faults, b1 (dwI q0 i).1.down] 1) ?_
          have hbl := blC_lt (c := (blC (dwI q0 i).2 5).2) (n := (dwI q0 i).1.secs.length) (by omega)
          have hk2 := blC_ok (n := (dwI q0 i).1.secs.length) hk
          have hsl := smC_len (c := (blC (blC (dwI q0 i).2 5).2 (dwI q0 i).1.secs.length).2)
          repeat' ((conv => whnf); (first | (apply cx30; refine kl (tx30 (c := (dwI q0 i).2) (n := 5)) ?_) | refine jA fun _ => ?_ | refine jB fun _ => ?_ | refine kC (fun _ => ?_) fun _ => ?_ | refine jS ?_ | refine jI ?_ | (apply cx30; refine kl tx30 ?_) | (apply cx41; refine kl tx41 ?_) | (apply cx28; refine kl tx28 ?_) | (apply cx47; refine kl tx47 ?_) | (apply cx32; refine kl tx32 ?_) | (apply cx48; refine kl tx48 ?_) | refine jD ?_ | refine ⟨snc, _, snr, ?_⟩ | refine ⟨⟨Nat.le_refl _, rfl⟩, [], rfl, ?_⟩ | refine And.intro ⟨rfl, rfl, by decide, rfl⟩ ?_ | refine jP ?_ | refine jO ?_ | refine jX ?_ | refine jb jr ?_ | refine jb ofs ?_ | refine ko jc ?_ | refine ko jp ?_ | refine jM ?_ | refine kr ?_ | refine ko rfl ?_ | refine And.intro (cs_shal _) ?_ | refine And.intro (rfl : List.all _ _ = true) ?_ | refine And.intro ⟨rfl, (rfl : List.all _ _ = true)⟩ ?_ | exact ⟨rfl, rfl⟩ | exact jV | fail))
          conv => whnf
          refine k0 ?_
          repeat' ((conv => whnf); (first | (apply cx30; refine kl (tx30 (c := (dwI q0 i).2) (n := 5)) ?_) | (apply cx30; refine kl (tx30 (c := (blC (dwI q0 i).2 5).2) (n := (dwI q0 i).1.secs.length)) ?_) | (apply cx32; refine kl (tx32 (c := (blC (blC (dwI q0 i).2 5).2 (dwI q0 i).1.secs.length).2)) ?_) | refine jA fun _ => ?_ | refine jB fun _ => ?_ | refine kC (fun _ => ?_) fun _ => ?_ | refine jS ?_ | refine jI ?_ | (apply cx30; refine kl tx30 ?_) | (apply cx41; refine kl tx41 ?_) | (apply cx28; refine kl tx28 ?_) | (apply cx47; refine kl tx47 ?_) | (apply cx32; refine kl tx32 ?_) | (apply cx48; refine kl tx48 ?_) | refine jD ?_ | refine ⟨snc, _, snr, ?_⟩ | refine ⟨⟨Nat.le_refl _, rfl⟩, [], rfl, ?_⟩ | refine And.intro ⟨rfl, rfl, by decide, rfl⟩ ?_ | refine jP ?_ | refine jO ?_ | refine jX ?_ | refine jb jr ?_ | refine jb ofs ?_ | refine ko jc ?_ | refine ko jp ?_ | refine jM ?_ | refine kr ?_ | refine ko rfl ?_ | refine And.intro (cs_shal _) ?_ | refine And.intro (rfl : List.all _ _ = true) ?_ | refine And.intro ⟨rfl, (rfl : List.all _ _ = true)⟩ ?_ | exact ⟨rfl, rfl⟩ | exact jV | fail))
          conv => whnf
          refine k0 ?_
          repeat' ((conv => whnf); (first | (apply cx30; refine kl (tx30 (c := (dwI q0 i).2) (n := 5)) ?_) | (apply cx30; refine kl (tx30 (c := (blC (dwI q0 i).2 5).2) (n := (dwI q0 i).1.secs.length)) ?_) | (apply cx32; refine kl (tx32 (c := (blC (blC (dwI q0 i).2 5).2 (dwI q0 i).1.secs.length).2)) ?_) | refine jA fun _ => ?_ | refine jB fun _ => ?_ | refine kC (fun _ => ?_) fun _ => ?_ | refine jS ?_ | refine jI ?_ | (apply cx30; refine kl tx30 ?_) | (apply cx41; refine kl tx41 ?_) | (apply cx28; refine kl tx28 ?_) | (apply cx47; refine kl tx47 ?_) | (apply cx32; refine kl tx32 ?_) | (apply cx48; refine kl tx48 ?_) | refine jD ?_ | refine ⟨snc, _, snr, ?_⟩ | refine ⟨⟨Nat.le_refl _, rfl⟩, [], rfl, ?_⟩ | refine And.intro ⟨rfl, rfl, by decide, rfl⟩ ?_ | refine jP ?_ | refine jO ?_ | refine jX ?_ | refine jb jr ?_ | refine jb ofs ?_ | refine ko jc ?_ | refine ko jp ?_ | refine jM ?_ | refine kr ?_ | refine ko rfl ?_ | refine And.intro (cs_shal _) ?_ | refine And.intro (rfl : List.all _ _ = true) ?_ | refine And.intro ⟨rfl, (rfl : List.all _ _ = true)⟩ ?_ | exact ⟨rfl, rfl⟩ | exact jV | fail))
          conv => whnf
          refine k0 ?_
          repeat' ((conv => whnf); (first | (apply cx30; refine kl (tx30 (c := (dwI q0 i).2) (n := 5)) ?_) | (apply cx30; refine kl (tx30 (c := (blC (dwI q0 i).2 5).2) (n := (dwI q0 i).1.secs.length)) ?_) | (apply cx32; refine kl (tx32 (c := (blC (blC (dwI q0 i).2 5).2 (dwI q0 i).1.secs.length).2)) ?_) | refine jA fun _ => ?_ | refine jB fun _ => ?_ | refine kC (fun _ => ?_) fun _ => ?_ | refine jS ?_ | refine jI ?_ | (apply cx30; refine kl tx30 ?_) | (apply cx41; refine kl tx41 ?_) | (apply cx28; refine kl tx28 ?_) | (apply cx47; refine kl tx47 ?_) | (apply cx32; refine kl tx32 ?_) | (apply cx48; refine kl tx48 ?_) | refine jD ?_ | refine ⟨snc, _, snr, ?_⟩ | refine ⟨⟨Nat.le_refl _, rfl⟩, [], rfl, ?_⟩ | refine And.intro ⟨rfl, rfl, by decide, rfl⟩ ?_ | refine jP ?_ | refine jO ?_ | refine jX ?_ | refine jb jr ?_ | refine jb ofs ?_ | refine ko jc ?_ | refine ko jp ?_ | refine jM ?_ | refine kr ?_ | refine ko rfl ?_ | refine And.intro (cs_shal _) ?_ | refine And.intro (rfl : List.all _ _ = true) ?_ | refine And.intro ⟨rfl, (rfl : List.all _ _ = true)⟩ ?_ | exact ⟨rfl, rfl⟩ | exact jV | fail))
          conv => whnf
          refine k0 ?_
          repeat' ((conv => whnf); (first | (apply cx30; refine kl (tx30 (c := (dwI q0 i).2) (n := 5)) ?_) | (apply cx30; refine kl (tx30 (c := (blC (dwI q0 i).2 5).2) (n := (dwI q0 i).1.secs.length)) ?_) | (apply cx32; refine kl (tx32 (c := (blC (blC (dwI q0 i).2 5).2 (dwI q0 i).1.secs.length).2)) ?_) | refine jA fun _ => ?_ | refine jB fun _ => ?_ | refine kC (fun _ => ?_) fun _ => ?_ | refine jS ?_ | refine jI ?_ | (apply cx30; refine kl tx30 ?_) | (apply cx41; refine kl tx41 ?_) | (apply cx28; refine kl tx28 ?_) | (apply cx47; refine kl tx47 ?_) | (apply cx32; refine kl tx32 ?_) | (apply cx48; refine kl tx48 ?_) | refine jD ?_ | refine ⟨snc, _, snr, ?_⟩ | refine ⟨⟨Nat.le_refl _, rfl⟩, [], rfl, ?_⟩ | refine And.intro ⟨rfl, rfl, by decide, rfl⟩ ?_ | refine jP ?_ | refine jO ?_ | refine jX ?_ | refine jb jr ?_ | refine jb ofs ?_ | refine ko jc ?_ | refine ko jp ?_ | refine jM ?_ | refine kr ?_ | refine ko rfl ?_ | refine And.intro (cs_shal _) ?_ | refine And.intro (rfl : List.all _ _ = true) ?_ | refine And.intro ⟨rfl, (rfl : List.all _ _ = true)⟩ ?_ | exact ⟨rfl, rfl⟩ | exact jV | fail))
          conv => whnf
          refine k0 ?_
          repeat' ((conv => whnf); (first | (apply cx30; refine kl (tx30 (c := (dwI q0 i).2) (n := 5)) ?_) | (apply cx30; refine kl (tx30 (c := (blC (dwI q0 i).2 5).2) (n := (dwI q0 i).1.secs.length)) ?_) | (apply cx32; refine kl (tx32 (c := (blC (blC (dwI q0 i).2 5).2 (dwI q0 i).1.secs.length).2)) ?_) | refine jA fun _ => ?_ | refine jB fun _ => ?_ | refine kC (fun _ => ?_) fun _ => ?_ | refine jS ?_ | refine jI ?_ | (apply cx30; refine kl tx30 ?_) | (apply cx41; refine kl tx41 ?_) | (apply cx28; refine kl tx28 ?_) | (apply cx47; refine kl tx47 ?_) | (apply cx32; refine kl tx32 ?_) | (apply cx48; refine kl tx48 ?_) | refine jD ?_ | refine ⟨snc, _, snr, ?_⟩ | refine ⟨⟨Nat.le_refl _, rfl⟩, [], rfl, ?_⟩ | refine And.intro ⟨rfl, rfl, by decide, rfl⟩ ?_ | refine jP ?_ | refine jO ?_ | refine jX ?_ | refine jb jr ?_ | refine jb ofs ?_ | refine ko jc ?_ | refine ko jp ?_ | refine jM ?_ | refine kr ?_ | refine ko rfl ?_ | refine And.intro (cs_shal _) ?_ | refine And.intro (rfl : List.all _ _ = true) ?_ | refine And.intro ⟨rfl, (rfl : List.all _ _ = true)⟩ ?_ | exact ⟨rfl, rfl⟩ | exact jV | fail))
          conv => whnf
          refine bstep (w_inE (cs1 := dskC true (dwI q0 i).1) 2 3 [] (dwI q0 i).1.secs [slE true (dwI q0 i).1.cache, i6 (dwI q0 i).1.ops, slE true (dwI q0 i).1.faults, b1 (dwI q0 i).1.down] (dwI q0 i).1.secs.length 1 rfl) ?_
          repeat' ((conv => whnf); (first | (apply cx48; refine kl (tx48 (d := (dwI q0 i).1) (n := ((blC (blC (dwI q0 i).2 5).2 (dwI q0 i).1.secs.length).1 : Nat)) (b := (smC (blC (blC (dwI q0 i).2 5).2 (dwI q0 i).1.secs.length).2).1)) ?_) | refine k0 ?_ | refine jA fun _ => ?_ | refine jB fun _ => ?_ | refine kC (fun _ => ?_) fun _ => ?_ | refine jS ?_ | refine jI ?_ | (apply cx30; refine kl tx30 ?_) | (apply cx41; refine kl tx41 ?_) | (apply cx28; refine kl tx28 ?_) | (apply cx47; refine kl tx47 ?_) | (apply cx32; refine kl tx32 ?_) | (apply cx48; refine kl tx48 ?_) | refine jD ?_ | refine ⟨snc, _, snr, ?_⟩ | refine ⟨⟨Nat.le_refl _, rfl⟩, [], rfl, ?_⟩ | refine And.intro ⟨rfl, rfl, by decide, rfl⟩ ?_ | refine jP ?_ | refine jO ?_ | refine jX ?_ | refine jb jr ?_ | refine jb ofs ?_ | refine ko jc ?_ | refine ko jp ?_ | refine jM ?_ | refine kr ?_ | refine ko rfl ?_ | refine And.intro (cs_shal _) ?_ | refine And.intro (rfl : List.all _ _ = true) ?_ | refine And.intro ⟨rfl, (rfl : List.all _ _ = true)⟩ ?_ | exact ⟨rfl, rfl⟩ | exact jV | fail))
          refine ⟨⟨i + 1, by omega⟩, by simp only; omega, ?_⟩
          exact w_autoX [] (by (conv => whnf); exact And.intro (by kernel_rfl) (And.intro (by kernel_rfl) (by repeat' (first | (with_reducible exact rfl) | ((conv => whnf); first | exact trivial | exact (by rw [e2]; exact ⟨rfl, clo_sl rfl, rfl⟩) | exact (by rw [e2]; exact ⟨rfl, clo_dsk, rfl⟩) | exact rfl | exact tvi (by first | omega | (dsimp only; omega) | (simp; done)) | exact tvr (by first | omega | (dsimp only; omega) | (simp; done) | (simp; omega)) | exact ⟨rfl, clo_i, by first | rfl | rw [List.take_length] | assumption⟩ | refine And.intro ?_ ?_)))))
    · obtain rfl : i = n := by omega
      repeat' ((conv => whnf); (first | refine jA fun _ => ?_ | refine jB fun _ => ?_ | refine kC (fun _ => ?_) fun _ => ?_ | refine jS ?_ | refine jI ?_ | (apply cx30; refine kl tx30 ?_) | (apply cx41; refine kl tx41 ?_) | (apply cx28; refine kl tx28 ?_) | (apply cx47; refine kl tx47 ?_) | (apply cx32; refine kl tx32 ?_) | (apply cx48; refine kl tx48 ?_) | refine jD ?_ | refine ⟨snc, _, snr, ?_⟩ | refine ⟨⟨Nat.le_refl _, rfl⟩, [], rfl, ?_⟩ | refine And.intro ⟨rfl, rfl, by decide, rfl⟩ ?_ | refine jP ?_ | refine jO ?_ | refine jX ?_ | refine jb jr ?_ | refine jb ofs ?_ | refine ko jc ?_ | refine ko jp ?_ | refine jM ?_ | refine kr ?_ | refine ko rfl ?_ | refine And.intro (cs_shal _) ?_ | refine And.intro (rfl : List.all _ _ = true) ?_ | refine And.intro ⟨rfl, (rfl : List.all _ _ = true)⟩ ?_ | exact ⟨rfl, rfl⟩ | exact jV | fail))
      conv => whnf
      refine bstep (w_outE 2 [] (dwI q0 i).1.secs [slE true (dwI q0 i).1.cache, i6 (dwI q0 i).1.ops, slE true (dwI q0 i).1.faults, b1 (dwI q0 i).1.down] 1) ?_
      refine bstep (w_outE 2 [_] (dwI q0 i).1.cache [i6 (dwI q0 i).1.ops, slE true (dwI q0 i).1.faults, b1 (dwI q0 i).1.down] 2) ?_
      refine bstep (w_outE 2 [_, _, i6 (dwI q0 i).1.ops] (dwI q0 i).1.faults [b1 (dwI q0 i).1.down] 3) ?_
      repeat' ((conv => whnf); (first | refine k0 ?_ | refine jA fun _ => ?_ | refine jB fun _ => ?_ | refine kC (fun _ => ?_) fun _ => ?_ | refine jS ?_ | refine jI ?_ | (apply cx30; refine kl tx30 ?_) | (apply cx41; refine kl tx41 ?_) | (apply cx28; refine kl tx28 ?_) | (apply cx47; refine kl tx47 ?_) | (apply cx32; refine kl tx32 ?_) | (apply cx48; refine kl tx48 ?_) | refine jD ?_ | refine ⟨snc, _, snr, ?_⟩ | refine ⟨⟨Nat.le_refl _, rfl⟩, [], rfl, ?_⟩ | refine And.intro ⟨rfl, rfl, by decide, rfl⟩ ?_ | refine jP ?_ | refine jO ?_ | refine jX ?_ | refine jb jr ?_ | refine jb ofs ?_ | refine ko jc ?_ | refine ko jp ?_ | refine jM ?_ | refine kr ?_ | refine ko rfl ?_ | refine And.intro (cs_shal _) ?_ | refine And.intro (rfl : List.all _ _ = true) ?_ | refine And.intro ⟨rfl, (rfl : List.all _ _ = true)⟩ ?_ | exact ⟨rfl, rfl⟩ | exact jV | fail))

theorem cx29 {P : Program} {X : FuncId → List Arg → List (Bool × List Cell) → List (Option (List Cell)) → Prop} {a : List Arg} {Q : List (Bool × List Cell) → List (Option (List Cell)) → Prop} (h : ∃ b vals outs, a = b ∧ D P X (.call 29 b vals outs) ∧ Q vals outs) : CallS P X 29 a Q := ⟨h⟩

end Go.Proofs.Ytmphoefccibibaa
