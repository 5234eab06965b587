/- Functions of the program, each with what it gives back. -/
import Derived.Test.YtmphoefccibibaaKe
import Derived.Test.YtmphoefccibibaaChecked
import Derived.IntWalk
import Derived.Test.YtmphoefccibibaaDd
namespace Go.Proofs.Ytmphoefccibibaa
open Go Go.RowKit Go.IntWalk
open Enc (sz cs)
attribute [local irreducible] IntKind.wrap

/-- Writes put behind until there are enough. -/
def caC : Nat → List Wri → Cur → List Wri × Cur
  | 0, l, c => (l, (blC c 2).2)
  | f + 1, l, c => if l.length < 59 + (blC c 2).1 then caC f (l ++ [⟨1, [1]⟩]) (blC c 2).2 else (l, (blC c 2).2)
theorem caC_y {f : Nat} {l : List Wri} {c : Cur} (h : l.length < 59 + (blC c 2).1) : caC (f + 1) l c = caC f (l ++ [⟨1, [1]⟩]) (blC c 2).2 := if_pos h
theorem caC_n {f : Nat} {l : List Wri} {c : Cur} (h : ¬ l.length < 59 + (blC c 2).1) : caC f l c = (l, (blC c 2).2) := by
  cases f with
  | zero => rfl
  | succ f => exact if_neg h
theorem caC_ok : ∀ {f : Nat} {l : List Wri} {c : Cur}, CurOk c → l.length ≤ 60 → CurOk (caC f l c).2 ∧ (caC f l c).1.length ≤ 60 ∧ l.length ≤ (caC f l c).1.length
  | 0, l, c, h, hl => ⟨blC_ok h, hl, Nat.le_refl _⟩
  | f + 1, l, c, h, hl => by
    have hb := blC_lt (c := c) (n := 2) (by decide)
    by_cases e : l.length < 59 + (blC c 2).1
    · rw [caC_y e]
      have := caC_ok (f := f) (l := l ++ [⟨1, [1]⟩]) (blC_ok (n := 2) h) (by simp; omega)
      refine ⟨this.1, this.2.1, ?_⟩
      have h3 := this.2.2
      simp only [List.length_append, List.length_singleton] at h3; omega
    · rw [caC_n e]; exact ⟨blC_ok h, hl, Nat.le_refl _⟩
theorem caC_mem : ∀ {f : Nat} {l : List Wri} {c : Cur} {w : Wri}, w ∈ (caC f l c).1 → w ∈ l ∨ w = ⟨1, [1]⟩
  | 0, l, c, w, h => .inl h
  | f + 1, l, c, w, h => by
    by_cases e : l.length < 59 + (blC c 2).1
    · rw [caC_y e] at h
      rcases caC_mem h with h | h
      · rcases List.mem_append.1 h with h | h
        · exact .inl h
        · exact .inr (List.mem_singleton.1 h)
      · exact .inr h
    · rw [caC_n e] at h; exact .inl h
/-- A disk that may be bent. -/
noncomputable def anD (c : Cur) : DC :=
  match (blC (dwC c).2 20).1 with
  | 0 => ({ (dwC c).1 with ops := (inC (blC (dwC c).2 20).2 [-1, 100000, 100001]).1 }, (inC (blC (dwC c).2 20).2 [-1, 100000, 100001]).2)
  | 1 => ({ (dwC c).1 with faults := (dwC c).1.faults ++ [⟨(inC (blC (dwC c).2 20).2 [0, 100001, 50]).1, (inC (inC (blC (dwC c).2 20).2 [0, 100001, 50]).2 [-1, 1048576, 0]).1, 0⟩] }, (inC (inC (blC (dwC c).2 20).2 [0, 100001, 50]).2 [-1, 1048576, 0]).2)
  | 2 => ({ (dwC c).1 with cache := (dwC c).1.cache ++ [⟨(inC (blC (dwC c).2 20).2 [-1, 0, 48]).1, (smC (inC (blC (dwC c).2 20).2 [-1, 0, 48]).2).1⟩] }, (smC (inC (blC (dwC c).2 20).2 [-1, 0, 48]).2).2)
  | 3 => ({ (dwC c).1 with secs := (dwC c).1.secs.set 0 (List.replicate (256 + (blC (blC (dwC c).2 20).2 2).1) 0) }, (blC (blC (dwC c).2 20).2 2).2)
  | 4 => ({ (dwC c).1 with secs := (dwC c).1.secs.take 3 }, (blC (dwC c).2 20).2)
  | 5 => ({ (dwC c).1 with cache := (caC (61 - (dwC c).1.cache.length) (dwC c).1.cache (blC (dwC c).2 20).2).1 }, (caC (61 - (dwC c).1.cache.length) (dwC c).1.cache (blC (dwC c).2 20).2).2)
  | _ => ((dwC c).1, (blC (dwC c).2 20).2)
section
variable {c c0 : Cur} {d : Dsk}
theorem anD_0 (hq : dwC c = (d, c0)) (h : (blC c0 20).1 = 0) : anD c = ({ d with ops := (inC (blC c0 20).2 [-1, 100000, 100001]).1 }, (inC (blC c0 20).2 [-1, 100000, 100001]).2) := by unfold anD; rw [hq]; simp only [h]
theorem anD_1 (hq : dwC c = (d, c0)) (h : (blC c0 20).1 = 1) : anD c = ({ d with faults := d.faults ++ [⟨(inC (blC c0 20).2 [0, 100001, 50]).1, (inC (inC (blC c0 20).2 [0, 100001, 50]).2 [-1, 1048576, 0]).1, 0⟩] }, (inC (inC (blC c0 20).2 [0, 100001, 50]).2 [-1, 1048576, 0]).2) := by unfold anD; rw [hq]; simp only [h]
theorem anD_2 (hq : dwC c = (d, c0)) (h : (blC c0 20).1 = 2) : anD c = ({ d with cache := d.cache ++ [⟨(inC (blC c0 20).2 [-1, 0, 48]).1, (smC (inC (blC c0 20).2 [-1, 0, 48]).2).1⟩] }, (smC (inC (blC c0 20).2 [-1, 0, 48]).2).2) := by unfold anD; rw [hq]; simp only [h]
theorem anD_3 (hq : dwC c = (d, c0)) (h : (blC c0 20).1 = 3) : anD c = ({ d with secs := d.secs.set 0 (List.replicate (256 + (blC (blC c0 20).2 2).1) 0) }, (blC (blC c0 20).2 2).2) := by unfold anD; rw [hq]; simp only [h]
theorem anD_4 (hq : dwC c = (d, c0)) (h : (blC c0 20).1 = 4) : anD c = ({ d with secs := d.secs.take 3 }, (blC c0 20).2) := by unfold anD; rw [hq]; simp only [h]
theorem anD_5 (hq : dwC c = (d, c0)) (h : (blC c0 20).1 = 5) : anD c = ({ d with cache := (caC (61 - d.cache.length) d.cache (blC c0 20).2).1 }, (caC (61 - d.cache.length) d.cache (blC c0 20).2).2) := by unfold anD; rw [hq]; simp only [h]
theorem anD_6 (hq : dwC c = (d, c0)) (h : 6 ≤ (blC c0 20).1) : anD c = (d, (blC c0 20).2) := by
  unfold anD; rw [hq]
  obtain ⟨x, hx⟩ : ∃ x, (blC c0 20).1 = x + 6 := ⟨(blC c0 20).1 - 6, by omega⟩
  simp only [hx]
theorem set_mem {α : Type} {l : List α} {i : Nat} {y x : α} (h : x ∈ l.set i y) : x ∈ l ∨ x = y := List.mem_or_eq_of_mem_set h
/-- The bounds of such a disk. -/
structure AnOk (q : DC) : Prop where
  cur : CurOk q.2
  secs : 3 ≤ q.1.secs.length ∧ q.1.secs.length ≤ 48
  cache : q.1.cache.length ≤ 60
  faults : q.1.faults.length ≤ 21
  sec : ∀ x ∈ q.1.secs, x.length ≤ 257
  wri : ∀ w ∈ q.1.cache, w.b.length ≤ 256
theorem anD_ok (hc : CurOk c) : AnOk (anD c) := by
  have hd := dwC_ok hc
  obtain ⟨⟨d, c0⟩, hq⟩ : ∃ q, dwC c = q := ⟨_, rfl⟩
  rw [hq] at hd
  have hb := blC_lt (c := c0) (n := 20) (by decide)
  have k1 := blC_ok (n := 20) hd.cur
  have hs := hd.ok.secs
  have hca := hd.cache
  have hf := hd.ok.faults
  have hse : ∀ x ∈ d.secs, x.length ≤ 257 := fun x hx => Nat.le_succ_of_le (hd.ok.sec' x hx)
  have hwr : ∀ w ∈ d.cache, w.b.length ≤ 256 := fun w hw => (hd.ok.wri' w hw).2.2
  simp only at hs hca hf
  by_cases h0 : (blC c0 20).1 = 0
  · rw [anD_0 hq h0]; exact ⟨inC_ok k1, by simp only; omega, by simp only; omega, by simp only; omega, hse, hwr⟩
  by_cases h1 : (blC c0 20).1 = 1
  · rw [anD_1 hq h1]; exact ⟨inC_ok (inC_ok k1), by simp only; omega, by simp only; omega, by simp only [List.length_append, List.length_singleton]; omega, hse, hwr⟩
  by_cases h2 : (blC c0 20).1 = 2
  · rw [anD_2 hq h2]; exact ⟨smC_ok (inC_ok k1), by simp only; omega, by simp only [List.length_append, List.length_singleton]; omega, by simp only; omega, hse, fun w hw => by
      rcases List.mem_append.1 hw with hw | hw
      · exact hwr w hw
      · obtain rfl := List.mem_singleton.1 hw
        exact Nat.le_trans smC_len (by decide)⟩
  by_cases h3 : (blC c0 20).1 = 3
  · rw [anD_3 hq h3]; exact ⟨blC_ok k1, by simp only [List.length_set]; omega, by simp only; omega, by simp only; omega, fun x hx => by
      rcases set_mem hx with hx | rfl
      · exact hse x hx
      · have := blC_lt (c := (blC c0 20).2) (n := 2) (by decide)
        rw [List.length_replicate]; omega, hwr⟩
  by_cases h4 : (blC c0 20).1 = 4
  · rw [anD_4 hq h4]; exact ⟨k1, by simp only [List.length_take]; omega, by simp only; omega, by simp only; omega, fun x hx => hse x (List.mem_of_mem_take hx), hwr⟩
  by_cases h5 : (blC c0 20).1 = 5
  · rw [anD_5 hq h5]
    have hk := caC_ok (f := 61 - d.cache.length) (l := d.cache) k1 (by omega)
    exact ⟨hk.1, by simp only; omega, hk.2.1, by simp only; omega, hse, fun w hw => by
      rcases caC_mem hw with hw | rfl
      · exact hwr w hw
      · show 1 ≤ 256; decide⟩
  rw [anD_6 hq (by omega)]; exact ⟨k1, by simp only; omega, by simp only; omega, by simp only; omega, hse, hwr⟩
theorem AnOk.small {q : DC} (h : AnOk q) : zD q.1 ≤ 30000 := by
  have hz : zD q.1 = q.1.secs.length + cnt List.length q.1.secs + (q.1.cache.length + cnt (fun w : Wri => w.b.length) q.1.cache) + q.1.faults.length := rfl
  have h1 := cnt_bd (c := List.length) h.sec
  have h2 := cnt_bd (c := fun w : Wri => w.b.length) (m := 256) h.wri
  have h3 := h.secs
  have h4 := h.cache
  have h5 := h.faults
  omega
end
theorem tk3 {xs : List (List UInt8)} (h : 3 ≤ xs.length) : cs true xs = cs true (xs.take 3) ++ cs true (xs.drop 3) := by
  rw [← Enc.app, List.take_append_drop]
theorem len1 {α : Type} {l : List α} {x : α} : l.length + 1 = (l ++ [x]).length := by simp
theorem zerB (m : Nat) : zerosT [.prim (.int .u8 0)] m = cs true (List.replicate m (0 : UInt8)) := by
  induction m with
  | zero => rfl
  | succ m ih =>
    rw [List.replicate_succ, cs_cons, ← ih]
    show (List.replicate (m + 1) [Cell.prim (.int .u8 0)]).flatten = _
    rw [List.replicate_succ, List.flatten_cons]; rfl
theorem kmB {n : Int} {m b : Nat} {K : Nat → Nat → List Cell → Prop} (hn : n = (m : Int)) (h : m ≤ 100000000) (hb : Nat.ble b 1000 = true) (k : K m 1 (cs true (List.replicate m (0 : UInt8)))) :
    (n = n ∧ 0 ≤ n ∧ n ≤ 140737488355328 ∧ n.toNat * b ≤ bigB) ∧ ∃ q s N, n.toNat = q ∧ ([Cell.prim (.int .u8 0)] : List Cell).length = s ∧ zerosT [.prim (.int .u8 0)] q = N ∧ K q s N := by
  subst hn
  exact jM (z := [Cell.prim (.int .u8 0)]) (K := fun q s N => K q s N) (by rw [zerB]; exact k) rfl h hb
attribute [local irreducible] byC blC inC bysC smC ftC wrD flD dwC caC

set_option maxHeartbeats 2000000 in
set_option maxRecDepth 100000 in
theorem tx14 {c : Cur} (hc : CurOk c := by first | assumption | omega | (simp; done) | (simp; omega)) : T 14 [aC c] [(true, dskC true (anD c).1)] [some (cuC (anD c).2)] := by
  refine w_call md [] Try.func14 rfl ?_
  have hd := dwC_ok hc
  obtain ⟨⟨d, c0⟩, hq⟩ : ∃ q, dwC c = q := ⟨_, rfl⟩
  have hC : T 29 [aC c] [(true, dskC true d)] [some (cuC c0)] := by
    have h := tx29 (c := c)
    rw [hq] at h; exact h
  rw [hq] at hd
  have hb := blC_lt (c := c0) (n := 20) (by decide)
  have kc0 : CurOk c0 := hd.cur
  have k1 := blC_ok (n := 20) kc0
  have hs := hd.ok.secs
  have hca := hd.cache
  have hf := hd.ok.faults
  have hsm := hd.ok.small
  have hwb : ∀ w ∈ d.cache, w.b.length ≤ 256 := fun w hw => (hd.ok.wri' w hw).2.2
  simp only at hs hca hf hsm
  have hz : zD d = d.secs.length + cnt List.length d.secs + (d.cache.length + cnt (fun w : Wri => w.b.length) d.cache) + d.faults.length := rfl
  by_cases h0 : (blC c0 20).1 = 0
  · rw [anD_0 hq h0]
    repeat' ((conv => whnf); (first | (apply cx29; refine kl (hC) ?_) | (apply cx30; refine kl (tx30 (c := c0) (n := 20)) ?_) | (apply cx31; refine kl (tx31 (c := (blC c0 20).2) (l := [-1, 100000, 100001])) ?_) | refine And.intro ⟨rfl, rfl, rfl⟩ ?_ | refine k0 ?_ | refine jA fun _ => ?_ | refine jB fun _ => ?_ | refine kC (fun _ => ?_) fun _ => ?_ | refine jS ?_ | refine jI ?_ | (apply cx29; refine kl tx29 ?_) | (apply cx30; refine kl tx30 ?_) | (apply cx31; refine kl tx31 ?_) | (apply cx32; refine kl tx32 ?_) | refine jD ?_ | refine ⟨snc, _, snr, ?_⟩ | refine ⟨⟨Nat.le_refl _, rfl⟩, [], rfl, ?_⟩ | refine And.intro ⟨rfl, rfl, by decide, rfl⟩ ?_ | refine jP ?_ | refine jO ?_ | refine jX ?_ | refine jb jr ?_ | refine jb ofs ?_ | refine ko jc ?_ | refine ko jp ?_ | refine jM ?_ | refine kr ?_ | refine ko rfl ?_ | refine And.intro (cs_shal _) ?_ | refine And.intro (rfl : List.all _ _ = true) ?_ | refine And.intro ⟨rfl, (rfl : List.all _ _ = true)⟩ ?_ | exact ⟨rfl, rfl⟩ | exact jV | fail))
  by_cases h1 : (blC c0 20).1 = 1
  · rw [anD_1 hq h1]
    have k2 := inC_ok (l := [0, 100001, 50]) k1
    repeat' ((conv => whnf); (first | (apply cx29; refine kl (hC) ?_) | (apply cx30; refine kl (tx30 (c := c0) (n := 20)) ?_) | (apply cx31; refine kl (tx31 (c := (blC c0 20).2) (l := [0, 100001, 50])) ?_) | (apply cx31; refine kl (tx31 (c := (inC (blC c0 20).2 [0, 100001, 50]).2) (l := [-1, 1048576, 0])) ?_) | refine And.intro ⟨rfl, rfl, rfl⟩ ?_ | refine jap (N := cs true ([⟨(inC (blC c0 20).2 [0, 100001, 50]).1, (inC (inC (blC c0 20).2 [0, 100001, 50]).2 [-1, 1048576, 0]).1, 0⟩] : List Fau)) (apE ?_) | refine k0 ?_ | refine jA fun _ => ?_ | refine jB fun _ => ?_ | refine kC (fun _ => ?_) fun _ => ?_ | refine jS ?_ | refine jI ?_ | (apply cx29; refine kl tx29 ?_) | (apply cx30; refine kl tx30 ?_) | (apply cx31; refine kl tx31 ?_) | (apply cx32; refine kl tx32 ?_) | refine jD ?_ | refine ⟨snc, _, snr, ?_⟩ | refine ⟨⟨Nat.le_refl _, rfl⟩, [], rfl, ?_⟩ | refine And.intro ⟨rfl, rfl, by decide, rfl⟩ ?_ | refine jP ?_ | refine jO ?_ | refine jX ?_ | refine jb jr ?_ | refine jb ofs ?_ | refine ko jc ?_ | refine ko jp ?_ | refine jM ?_ | refine kr ?_ | refine ko rfl ?_ | refine And.intro (cs_shal _) ?_ | refine And.intro (rfl : List.all _ _ = true) ?_ | refine And.intro ⟨rfl, (rfl : List.all _ _ = true)⟩ ?_ | exact ⟨rfl, rfl⟩ | exact jV | fail))
  by_cases h2 : (blC c0 20).1 = 2
  · rw [anD_2 hq h2]
    have k2 := inC_ok (l := [-1, 0, 48]) k1
    have hsl := smC_len (c := (inC (blC c0 20).2 [-1, 0, 48]).2)
    repeat' ((conv => whnf); (first | (apply cx29; refine kl (hC) ?_) | (apply cx30; refine kl (tx30 (c := c0) (n := 20)) ?_) | (apply cx31; refine kl (tx31 (c := (blC c0 20).2) (l := [-1, 0, 48])) ?_) | (apply cx32; refine kl (tx32 (c := (inC (blC c0 20).2 [-1, 0, 48]).2)) ?_) | refine And.intro ⟨rfl, rfl, rfl⟩ ?_ | refine Exists.intro _ (Exists.intro _ (And.intro rfl (And.intro ⟨by simp <;> omega, bgb (by omega), bg (by omega)⟩ (apR (xs := d.cache) ?_)))) | ((with_reducible apply bfin); exact w_inE 150 102 (cs true d.cache ++ [i6 (inC (blC c0 20).2 [-1, 0, 48]).1]) (smC (inC (blC c0 20).2 [-1, 0, 48]).2).1 [] (smC (inC (blC c0 20).2 [-1, 0, 48]).2).1.length 1 wr_app) | refine k0 ?_ | refine jA fun _ => ?_ | refine jB fun _ => ?_ | refine kC (fun _ => ?_) fun _ => ?_ | refine jS ?_ | refine jI ?_ | (apply cx29; refine kl tx29 ?_) | (apply cx30; refine kl tx30 ?_) | (apply cx31; refine kl tx31 ?_) | (apply cx32; refine kl tx32 ?_) | refine jD ?_ | refine ⟨snc, _, snr, ?_⟩ | refine ⟨⟨Nat.le_refl _, rfl⟩, [], rfl, ?_⟩ | refine And.intro ⟨rfl, rfl, by decide, rfl⟩ ?_ | refine jP ?_ | refine jO ?_ | refine jX ?_ | refine jb jr ?_ | refine jb ofs ?_ | refine ko jc ?_ | refine ko jp ?_ | refine jM ?_ | refine kr ?_ | refine ko rfl ?_ | refine And.intro (cs_shal _) ?_ | refine And.intro (rfl : List.all _ _ = true) ?_ | refine And.intro ⟨rfl, (rfl : List.all _ _ = true)⟩ ?_ | exact ⟨rfl, rfl⟩ | exact jV | fail))
    exact ⟨congrArg (fun m => [(true, [slE true d.secs, Cell.sl true m 2 (cs true (d.cache ++ [(⟨(inC (blC c0 20).2 [-1, 0, 48]).1, (smC (inC (blC c0 20).2 [-1, 0, 48]).2).1⟩ : Wri)])), i6 d.ops, slE true d.faults, b1 d.down])]) len1, rfl⟩
  by_cases h3 : (blC c0 20).1 = 3
  · rw [anD_3 hq h3]
    have hb2 := blC_lt (c := (blC c0 20).2) (n := 2) (by decide)
    repeat' ((conv => whnf); (first | (apply cx29; refine kl (hC) ?_) | (apply cx30; refine kl (tx30 (c := c0) (n := 20)) ?_) | (apply cx30; refine kl (tx30 (c := (blC c0 20).2) (n := 2)) ?_) | refine kmB (m := 256 + (blC (blC c0 20).2 2).1) (by omega) (by omega) (by rfl) ?_ | refine ko (ptSec (i := 0) (by omega)) ?_ | ((with_reducible apply bfin); exact w_inE 2 86 (cs true (d.secs.take 0)) (List.replicate (256 + (blC (blC c0 20).2 2).1) 0) (cs true (d.secs.drop 1)) (256 + (blC (blC c0 20).2 2).1) 1 (csSec (by omega)) (hk := List.length_replicate)) | refine k0 ?_ | refine jA fun _ => ?_ | refine jB fun _ => ?_ | refine kC (fun _ => ?_) fun _ => ?_ | refine jS ?_ | refine jI ?_ | (apply cx29; refine kl tx29 ?_) | (apply cx30; refine kl tx30 ?_) | (apply cx31; refine kl tx31 ?_) | (apply cx32; refine kl tx32 ?_) | refine jD ?_ | refine ⟨snc, _, snr, ?_⟩ | refine ⟨⟨Nat.le_refl _, rfl⟩, [], rfl, ?_⟩ | refine And.intro ⟨rfl, rfl, by decide, rfl⟩ ?_ | refine jP ?_ | refine jO ?_ | refine jX ?_ | refine jb jr ?_ | refine jb ofs ?_ | refine ko jc ?_ | refine ko jp ?_ | refine jM ?_ | refine kr ?_ | refine ko rfl ?_ | refine And.intro (cs_shal _) ?_ | refine And.intro (rfl : List.all _ _ = true) ?_ | refine And.intro ⟨rfl, (rfl : List.all _ _ = true)⟩ ?_ | exact ⟨rfl, rfl⟩ | exact jV | fail))
    exact ⟨congrArg (fun m => [(true, [Cell.sl true m 1 (cs true (d.secs.set 0 (List.replicate (256 + (blC (blC c0 20).2 2).1) 0))), slE true d.cache, i6 d.ops, slE true d.faults, b1 d.down])]) List.length_set.symm, rfl⟩
  by_cases h4 : (blC c0 20).1 = 4
  · rw [anD_4 hq h4]
    have ht3 : (d.secs.take 3).length = 3 := by rw [List.length_take]; omega
    repeat' ((conv => whnf); (first | (apply cx29; refine kl (hC) ?_) | refine jA fun _ => ?_ | refine jB fun _ => ?_ | refine kC (fun _ => ?_) fun _ => ?_ | refine jS ?_ | refine jI ?_ | (apply cx29; refine kl tx29 ?_) | (apply cx30; refine kl tx30 ?_) | (apply cx31; refine kl tx31 ?_) | (apply cx32; refine kl tx32 ?_) | refine jD ?_ | refine ⟨snc, _, snr, ?_⟩ | refine ⟨⟨Nat.le_refl _, rfl⟩, [], rfl, ?_⟩ | refine And.intro ⟨rfl, rfl, by decide, rfl⟩ ?_ | refine jP ?_ | refine jO ?_ | refine jX ?_ | refine jb jr ?_ | refine jb ofs ?_ | refine ko jc ?_ | refine ko jp ?_ | refine jM ?_ | refine kr ?_ | refine ko rfl ?_ | refine And.intro (cs_shal _) ?_ | refine And.intro (rfl : List.all _ _ = true) ?_ | refine And.intro ⟨rfl, (rfl : List.all _ _ = true)⟩ ?_ | exact ⟨rfl, rfl⟩ | exact jV | fail))
    conv => whnf
    refine k0 ?_
    repeat' ((conv => whnf); (first | (apply cx29; refine kl (hC) ?_) | refine jA fun _ => ?_ | refine jB fun _ => ?_ | refine kC (fun _ => ?_) fun _ => ?_ | refine jS ?_ | refine jI ?_ | (apply cx29; refine kl tx29 ?_) | (apply cx30; refine kl tx30 ?_) | (apply cx31; refine kl tx31 ?_) | (apply cx32; refine kl tx32 ?_) | refine jD ?_ | refine ⟨snc, _, snr, ?_⟩ | refine ⟨⟨Nat.le_refl _, rfl⟩, [], rfl, ?_⟩ | refine And.intro ⟨rfl, rfl, by decide, rfl⟩ ?_ | refine jP ?_ | refine jO ?_ | refine jX ?_ | refine jb jr ?_ | refine jb ofs ?_ | refine ko jc ?_ | refine ko jp ?_ | refine jM ?_ | refine kr ?_ | refine ko rfl ?_ | refine And.intro (cs_shal _) ?_ | refine And.intro (rfl : List.all _ _ = true) ?_ | refine And.intro ⟨rfl, (rfl : List.all _ _ = true)⟩ ?_ | exact ⟨rfl, rfl⟩ | exact jV | fail))
    conv => whnf
    refine bstep (w_shr 2 (cs true (d.secs.take 3)) (cs true (d.secs.drop 3)) (h1 := tk3 (by omega)) (hz := fun e => by have := congrArg List.length e; rw [cs_len, ht3] at this; exact absurd (show (3 : Nat) = 0 from this) (by decide))) ?_
    repeat' ((conv => whnf); (first | (apply cx30; refine kl (tx30 (c := c0) (n := 20)) ?_) | refine Exists.intro _ (Exists.intro _ (Exists.intro _ (And.intro rfl (And.intro rfl (And.intro (sl_rk (k := 3) (by omega) (by decide)) ?_))))) | refine And.intro ⟨rfl, by rw [cs_len, ht3], by decide, cs_shal _⟩ ?_ | refine k0 ?_ | refine jA fun _ => ?_ | refine jB fun _ => ?_ | refine kC (fun _ => ?_) fun _ => ?_ | refine jS ?_ | refine jI ?_ | (apply cx29; refine kl tx29 ?_) | (apply cx30; refine kl tx30 ?_) | (apply cx31; refine kl tx31 ?_) | (apply cx32; refine kl tx32 ?_) | refine jD ?_ | refine ⟨snc, _, snr, ?_⟩ | refine ⟨⟨Nat.le_refl _, rfl⟩, [], rfl, ?_⟩ | refine And.intro ⟨rfl, rfl, by decide, rfl⟩ ?_ | refine jP ?_ | refine jO ?_ | refine jX ?_ | refine jb jr ?_ | refine jb ofs ?_ | refine ko jc ?_ | refine ko jp ?_ | refine jM ?_ | refine kr ?_ | refine ko rfl ?_ | refine And.intro (cs_shal _) ?_ | refine And.intro (rfl : List.all _ _ = true) ?_ | refine And.intro ⟨rfl, (rfl : List.all _ _ = true)⟩ ?_ | exact ⟨rfl, rfl⟩ | exact jV | fail))
    exact ⟨congrArg (fun m => [(true, [Cell.sl true m 1 (cs true (d.secs.take 3)), slE true d.cache, i6 d.ops, slE true d.faults, b1 d.down])]) ht3.symm, rfl⟩
  by_cases h5 : (blC c0 20).1 = 5
  · rw [anD_5 hq h5]
    generalize hfin : caC (61 - d.cache.length) d.cache (blC c0 20).2 = fin
    repeat' ((conv => whnf); (first | (apply cx29; refine kl (hC) ?_) | (apply cx30; refine kl (tx30 (c := c0) (n := 20)) ?_) | refine k0 ?_ | refine jA fun _ => ?_ | refine jB fun _ => ?_ | refine kC (fun _ => ?_) fun _ => ?_ | refine jS ?_ | refine jI ?_ | (apply cx29; refine kl tx29 ?_) | (apply cx30; refine kl tx30 ?_) | (apply cx31; refine kl tx31 ?_) | (apply cx32; refine kl tx32 ?_) | refine jD ?_ | refine ⟨snc, _, snr, ?_⟩ | refine ⟨⟨Nat.le_refl _, rfl⟩, [], rfl, ?_⟩ | refine And.intro ⟨rfl, rfl, by decide, rfl⟩ ?_ | refine jP ?_ | refine jO ?_ | refine jX ?_ | refine jb jr ?_ | refine jb ofs ?_ | refine ko jc ?_ | refine ko jp ?_ | refine jM ?_ | refine kr ?_ | refine ko rfl ?_ | refine And.intro (cs_shal _) ?_ | refine And.intro (rfl : List.all _ _ = true) ?_ | refine And.intro ⟨rfl, (rfl : List.all _ _ = true)⟩ ?_ | exact ⟨rfl, rfl⟩ | exact jV | fail))
    conv => whnf
    refine loopk (ι := List Wri × Cur) (fun i => caC (61 - i.1.length) i.1 i.2 = fin ∧ i.1.length ≤ 60 ∧ CurOk i.2) (fun i => 61 - i.1.length) ((d.cache, (blC c0 20).2)) [0, 2] (fun i => [(3, .v false [.ptr 5 0])]) [some fun i => (true, cuC i.2), none, none, some fun i => nE i.1, none, some fun i => (true, [.ref 2 0 d.secs.length 1, .ref 3 0 i.1.length 2, i6 d.ops, .ref 4 0 d.faults.length 3, b1 d.down])] ?_
    refine ⟨⟨hfin, by simp only; omega, k1⟩, ?_, fun i hi => ?_⟩
    · exact jw [5]
    · obtain ⟨l, e⟩ := i
      obtain ⟨hi1, hi2, hi3⟩ := hi
      simp only at hi1 hi2 hi3
      have hb2 := blC_lt (c := e) (n := 2) (by decide)
      have hk2 := blC_ok (n := 2) hi3
      have hsn : (l, e).1.length = l.length := rfl
      by_cases hlt : l.length < 59 + (blC e 2).1
      · repeat' ((conv => whnf); (first | (apply cx30; refine kl (tx30 (c := e) (n := 2)) ?_) | refine Exists.intro _ (Exists.intro _ (And.intro rfl (And.intro ⟨by simp <;> omega, bgb (by omega), bg (by omega)⟩ (apR (xs := l) ?_)))) | refine k0 ?_ | refine jA fun _ => ?_ | refine jB fun _ => ?_ | refine kC (fun _ => ?_) fun _ => ?_ | refine jS ?_ | refine jI ?_ | (apply cx29; refine kl tx29 ?_) | (apply cx30; refine kl tx30 ?_) | (apply cx31; refine kl tx31 ?_) | (apply cx32; refine kl tx32 ?_) | refine jD ?_ | refine ⟨snc, _, snr, ?_⟩ | refine ⟨⟨Nat.le_refl _, rfl⟩, [], rfl, ?_⟩ | refine And.intro ⟨rfl, rfl, by decide, rfl⟩ ?_ | refine jP ?_ | refine jO ?_ | refine jX ?_ | refine jb jr ?_ | refine jb ofs ?_ | refine ko jc ?_ | refine ko jp ?_ | refine jM ?_ | refine kr ?_ | refine ko rfl ?_ | refine And.intro (cs_shal _) ?_ | refine And.intro (rfl : List.all _ _ = true) ?_ | refine And.intro ⟨rfl, (rfl : List.all _ _ = true)⟩ ?_ | exact ⟨rfl, rfl⟩ | exact jV | fail))
        refine ⟨⟨(l ++ [⟨1, [1]⟩], (blC e 2).2), ?_⟩, ?_, (w_inE 8 6 (cs true l ++ [i6 1]) ([1] : List UInt8) [] 1 1 wr_app).trans ?_⟩
        · refine ⟨?_, by simp; omega, hk2⟩
          rw [← hi1, show 61 - l.length = 61 - (l ++ [(⟨1, [1]⟩ : Wri)]).length + 1 by simp; omega, caC_y hlt]
        · simp; omega
        · exact w_autoX [5] (by (conv => whnf); exact And.intro (by kernel_rfl) (And.intro (by kernel_rfl) (by repeat' (first | (with_reducible exact rfl) | ((conv => whnf); first | exact trivial | exact (by rw [← len1]; exact ⟨rfl, rfl⟩) | exact (by rw [← len1]; rfl) | exact rfl | exact tvi (by first | omega | (dsimp only; omega) | (simp; done)) | exact tvr (by first | omega | (dsimp only; omega) | (simp; done) | (simp; omega)) | exact ⟨rfl, clo_i, by first | rfl | rw [List.take_length] | assumption⟩ | refine And.intro ?_ ?_)))))
      · obtain rfl : fin = (l, (blC e 2).2) := by rw [← hi1, caC_n hlt]
        repeat' ((conv => whnf); (first | (apply cx30; refine kl (tx30 (c := e) (n := 2)) ?_) | refine k0 ?_ | refine jA fun _ => ?_ | refine jB fun _ => ?_ | refine kC (fun _ => ?_) fun _ => ?_ | refine jS ?_ | refine jI ?_ | (apply cx29; refine kl tx29 ?_) | (apply cx30; refine kl tx30 ?_) | (apply cx31; refine kl tx31 ?_) | (apply cx32; refine kl tx32 ?_) | refine jD ?_ | refine ⟨snc, _, snr, ?_⟩ | refine ⟨⟨Nat.le_refl _, rfl⟩, [], rfl, ?_⟩ | refine And.intro ⟨rfl, rfl, by decide, rfl⟩ ?_ | refine jP ?_ | refine jO ?_ | refine jX ?_ | refine jb jr ?_ | refine jb ofs ?_ | refine ko jc ?_ | refine ko jp ?_ | refine jM ?_ | refine kr ?_ | refine ko rfl ?_ | refine And.intro (cs_shal _) ?_ | refine And.intro (rfl : List.all _ _ = true) ?_ | refine And.intro ⟨rfl, (rfl : List.all _ _ = true)⟩ ?_ | exact ⟨rfl, rfl⟩ | exact jV | fail))
  rw [anD_6 hq (by omega)]
  repeat' ((conv => whnf); (first | (apply cx29; refine kl (hC) ?_) | (apply cx30; refine kl (tx30 (c := c0) (n := 20)) ?_) | refine k0 ?_ | refine jA fun _ => ?_ | refine jB fun _ => ?_ | refine kC (fun _ => ?_) fun _ => ?_ | refine jS ?_ | refine jI ?_ | (apply cx29; refine kl tx29 ?_) | (apply cx30; refine kl tx30 ?_) | (apply cx31; refine kl tx31 ?_) | (apply cx32; refine kl tx32 ?_) | refine jD ?_ | refine ⟨snc, _, snr, ?_⟩ | refine ⟨⟨Nat.le_refl _, rfl⟩, [], rfl, ?_⟩ | refine And.intro ⟨rfl, rfl, by decide, rfl⟩ ?_ | refine jP ?_ | refine jO ?_ | refine jX ?_ | refine jb jr ?_ | refine jb ofs ?_ | refine ko jc ?_ | refine ko jp ?_ | refine jM ?_ | refine kr ?_ | refine ko rfl ?_ | refine And.intro (cs_shal _) ?_ | refine And.intro (rfl : List.all _ _ = true) ?_ | refine And.intro ⟨rfl, (rfl : List.all _ _ = true)⟩ ?_ | exact ⟨rfl, rfl⟩ | exact jV | fail))

theorem cx14 {P : Program} {X : FuncId → List Arg → List (Bool × List Cell) → List (Option (List Cell)) → Prop} {a : List Arg} {Q : List (Bool × List Cell) → List (Option (List Cell)) → Prop} (h : ∃ b vals outs, a = b ∧ D P X (.call 14 b vals outs) ∧ Q vals outs) : CallS P X 14 a Q := ⟨h⟩

end Go.Proofs.Ytmphoefccibibaa
