/- Functions of the program, each with what it gives back. -/
import Derived.Test.YtmphoefccibibaaKe
import Derived.Test.YtmphoefccibibaaChecked
import Derived.IntWalk
import Derived.Test.YtmphoefccibibaaFu
namespace Go.Proofs.Ytmphoefccibibaa
open Go Go.RowKit Go.IntWalk
open Enc (sz cs)
attribute [local irreducible] IntKind.wrap

attribute [local irreducible] gU gT
theorem u64_in {i : Nat} (h : i < 20) : IntKind.u64.wrap (i : Int) = i := by unfold IntKind.wrap; simp [IntKind.signed, IntKind.bits]; omega
theorem shk0 {i : Nat} (h : i < 20) : (0 : Int) ≤ IntKind.u64.wrap (i : Int) := by rw [u64_in h]; omega
theorem shk {keep : Int} {i : Nat} (h : i < 20) : keep.fdiv (2 ^ min (IntKind.u64.wrap (i : Int)).toNat IntKind.i64.bits) = keep.fdiv (2 ^ min i 64) := by rw [u64_in h]; rfl
theorem lstI_y {keep : Int} {i : Nat} (h : bitK keep i = true) : lstI keep (i + 1) = i := if_pos h
theorem lstI_n {keep : Int} {i : Nat} (h : ¬ bitK keep i = true) : lstI keep (i + 1) = lstI keep i := if_neg h
theorem bitK_y {keep : Int} {i : Nat} (h : IntKind.wrap .i64 ((BitVec.ofInt 64 (keep.fdiv (2 ^ min i 64)) &&& BitVec.ofInt 64 1).toNat : Nat) = 1) : bitK keep i = true := decide_eq_true h
theorem bitK_n {keep : Int} {i : Nat} (h : ¬ IntKind.wrap .i64 ((BitVec.ofInt 64 (keep.fdiv (2 ^ min i 64)) &&& BitVec.ofInt 64 1).toNat : Nat) = 1) : ¬ bitK keep i = true := fun e => h (of_decide_eq_true e)
theorem bit01 (x : BitVec 64) : IntKind.wrap .i64 ((x &&& BitVec.ofInt 64 1).toNat : Nat) = 0 ∨ IntKind.wrap .i64 ((x &&& BitVec.ofInt 64 1).toNat : Nat) = 1 := by
  have e : (x &&& BitVec.ofInt 64 1).toNat = x.toNat % 2 := by
    rw [BitVec.toNat_and, show (BitVec.ofInt 64 1).toNat = 1 from rfl, Nat.and_one_is_mod]
  rw [e]
  rcases Nat.mod_two_eq_zero_or_one x.toNat with h | h <;> rw [h]
  · exact .inl (by unfold IntKind.wrap; simp [IntKind.signed, IntKind.bits])
  · exact .inr (by unfold IntKind.wrap; simp [IntKind.signed, IntKind.bits])
theorem bitK_z {keep : Int} {i : Nat} (h : IntKind.wrap .i64 ((BitVec.ofInt 64 (keep.fdiv (2 ^ min i 64)) &&& BitVec.ofInt 64 1).toNat : Nat) = 0) : ¬ bitK keep i = true := bitK_n (by rw [h]; decide)
theorem bitK_o {keep : Int} {i : Nat} (h : ¬ IntKind.wrap .i64 ((BitVec.ofInt 64 (keep.fdiv (2 ^ min i 64)) &&& BitVec.ofInt 64 1).toNat : Nat) = 0) : bitK keep i = true := bitK_y ((bit01 _).resolve_left h)
theorem ptSec {xs : List (List UInt8)} {i : Nat} {c : List Cell} (h : i < xs.length) (hc : c.length = 1 := by rfl) : put (cs true xs) (i * 1) c = some (cs true (xs.take i) ++ c ++ cs true (xs.drop (i + 1))) := by
  show put (cs true xs) (i * sz (List UInt8)) c = _
  rw [cs_split h, ← Nat.add_zero (i * sz (List UInt8)), put_mid (cs_take_len (by omega)).symm (put_all (by rw [Enc.len, hc]; rfl))]
theorem csSec {xs : List (List UInt8)} {i : Nat} {y : List UInt8} (h : i < xs.length) : cs true (xs.take i) ++ [slE true y] ++ cs true (xs.drop (i + 1)) = cs true (xs.set i y) := by
  have e : xs.set i y = xs.take i ++ [y] ++ xs.drop (i + 1) := by
    rw [List.set_eq_take_append_cons_drop, if_pos h]; simp
  rw [e, Enc.app, Enc.app]; rfl
theorem wrD_9 {d : Dsk} {n : Int} {b : List UInt8} (h : d.down = true ∨ 100000 ≤ d.ops) : wrD d n b = (d, 9) := if_pos h
theorem wrD_f {d : Dsk} {n : Int} {b : List UInt8} {f : Fau} (h : ¬ (d.down = true ∨ 100000 ≤ d.ops)) (hf : fltD d = some f) : wrD d n b = (losD { d with ops := d.ops + 1, cache := d.cache ++ [⟨n, b⟩] } f, 9) := by
  unfold wrD; rw [if_neg h, hf]
theorem wrD_n {d : Dsk} {n : Int} {b : List UInt8} (h : ¬ (d.down = true ∨ 100000 ≤ d.ops)) (hf : fltD d = none) : wrD d n b = ({ d with ops := d.ops + 1, cache := d.cache ++ [⟨n, b⟩] }, 0) := by
  unfold wrD; rw [if_neg h, hf]
theorem wr_app {l : List Wri} {n : Int} {b : List UInt8} : cs true l ++ [i6 n] ++ [slE true b] ++ [] = cs true (l ++ [⟨n, b⟩]) := by
  rw [Enc.app, List.append_nil, List.append_assoc]; rfl
theorem flD_9 {d : Dsk} (h : d.down = true ∨ 100000 ≤ d.ops) : flD d = (d, 9) := if_pos h
theorem flD_f {d : Dsk} {f : Fau} (h : ¬ (d.down = true ∨ 100000 ≤ d.ops)) (hf : fltD d = some f) : flD d = (losD { d with ops := d.ops + 1 } f, 9) := by
  unfold flD; rw [if_neg h, hf]
theorem flD_n {d : Dsk} (h : ¬ (d.down = true ∨ 100000 ≤ d.ops)) (hf : fltD d = none) : flD d = ({ d with ops := d.ops + 1, secs := stl d.secs d.cache, cache := [] }, 0) := by
  unfold flD; rw [if_neg h, hf]
/-- Writes whose bytes are not looked at any more. -/
def dlW (l : List Wri) : List Cell := l.flatMap fun w => [i6 w.n, Cell.dead]
theorem dlW_len : ∀ {l : List Wri}, (dlW l).length = l.length * 2
  | [] => rfl
  | w :: l => by
    have e : dlW (w :: l) = [i6 w.n, Cell.dead] ++ dlW l := rfl
    rw [e, List.length_append, dlW_len, List.length_cons]; simp; omega
theorem dlW_suc {l : List Wri} {i : Nat} (h : i < l.length) : dlW (l.take (i + 1)) = dlW (l.take i) ++ [i6 l[i].n, Cell.dead] := by
  unfold dlW; rw [take_one h, List.flatMap_append]; rfl
theorem dlW_map {q : List Nat} : ∀ {l : List Wri}, (dlW l).map (renC q) = dlW l
  | [] => rfl
  | w :: l => by
    have e : dlW (w :: l) = [i6 w.n, Cell.dead] ++ dlW l := rfl
    rw [e, List.map_append, dlW_map]; rfl
theorem dlW_ren {q : List Nat} {l m : List Wri} : (dlW l ++ cs true m).map (renC q) = dlW l ++ cs true m := by
  rw [List.map_append, dlW_map, ren_cs]
theorem dlW_beg {q : List Nat} {l : List Wri} : (cs true l).map (renC q) = dlW (l.take 0) ++ cs true (l.drop 0) := ren_cs
theorem dlW_end {q : List Nat} {l : List Wri} {i : Nat} (h : i < l.length) : ((dlW (l.take i) ++ [i6 l[i].n]) ++ [Cell.dead] ++ cs true (l.drop (i + 1))).map (renC q) = dlW (l.take (i + 1)) ++ cs true (l.drop (i + 1)) := by
  rw [List.append_assoc (dlW _), show [i6 l[i].n] ++ [Cell.dead] = [i6 l[i].n, Cell.dead] from rfl, ← dlW_suc h, dlW_ren]
theorem dlW_out {l : List Wri} {i : Nat} (h : i < l.length) : dlW (l.take i) ++ cs true (l.drop i) = (dlW (l.take i) ++ [i6 l[i].n]) ++ [slE true l[i].b] ++ cs true (l.drop (i + 1)) := by
  rw [List.drop_eq_getElem_cons h, show l[i] :: l.drop (i + 1) = [l[i]] ++ l.drop (i + 1) from rfl, Enc.app, List.append_assoc, List.append_assoc]
  rfl
theorem cutW1 {A C : List Cell} {c1 c2 : Cell} {p : Nat} (hp : A.length = p) : cut ((A ++ [c1]) ++ [c2] ++ C) (p + 0) 1 = some [c1] := by
  rw [List.append_assoc A, show [c1] ++ [c2] = [c1, c2] from rfl, cut_mid hp.symm (by simp)]; rfl
theorem cutW2 {A C : List Cell} {c1 c2 : Cell} {p : Nat} (hp : A.length = p) : cut ((A ++ [c1]) ++ [c2] ++ C) (p + 1) 1 = some [c2] := by
  rw [List.append_assoc A, show [c1] ++ [c2] = [c1, c2] from rfl, cut_mid hp.symm (by simp)]; rfl

set_option maxRecDepth 100000 in
theorem tx60 {d : Dsk} (hd : zD d ≤ 2000000 := by first | assumption | omega | (simp; done) | (simp; omega)) : T 60 [.val true (dskC false d)] [(true, fauC ((fltD d).getD ⟨0, 0, 0⟩)), vB (fltD d).isSome] [none] := by
  refine w_call md [[], []] Try.func60 rfl ?_
  have hz : zD d = d.secs.length + cnt List.length d.secs + (d.cache.length + cnt (fun w : Wri => w.b.length) d.cache) + d.faults.length := rfl
  repeat' ((conv => whnf); (first | refine k0 ?_ | refine jA fun _ => ?_ | refine jB fun _ => ?_ | refine kC (fun _ => ?_) fun _ => ?_ | refine jst ?_ | exact ⟨rfl, rfl⟩ | exact jV | fail))
  conv => whnf
  refine loopk (ι := Nat) (fun i => i ≤ d.faults.length ∧ ∀ j (h : j < d.faults.length), j < i → d.faults[j].pos ≠ d.ops) (fun i => d.faults.length - i) (0) [1, 2] (fun i => [(4, .v false [i6 i])]) [none, none, none] ?_
  refine ⟨⟨by omega, by intros; omega⟩, ?_, fun i hi => ?_⟩
  · exact jw []
  · repeat' ((conv => whnf); (first | refine k0 ?_ | refine jst ?_ | exact ⟨rfl, rfl⟩ | exact jV | fail))
    conv => whnf
    refine ⟨fun hlt => ?_, fun hge => ?_⟩
    · have hi2 : i < d.faults.length := by omega
      repeat' ((conv => whnf); (first | refine k0 ?_ | refine jA fun _ => ?_ | refine jB fun _ => ?_ | refine kC (fun _ => ?_) fun _ => ?_ | refine jst ?_ | exact ⟨rfl, rfl⟩ | exact jV | fail))
      · exact ⟨by rw [fltD_at hi2 ‹_› (fun j h h2 => hi.2 j h h2)]; rfl, rfl⟩
      · refine ⟨⟨i + 1, by omega, all_suc hi.2 hi2 ‹_›⟩, by simp only; omega, ?_⟩
        exact jw []
    · obtain rfl : i = d.faults.length := by omega
      repeat' ((conv => whnf); (first | refine k0 ?_ | refine jA fun _ => ?_ | refine jB fun _ => ?_ | refine kC (fun _ => ?_) fun _ => ?_ | refine jst ?_ | exact ⟨rfl, rfl⟩ | exact jV | fail))
      exact ⟨by rw [fltD_no (fun j h => hi.2 j h h)]; rfl, rfl⟩

theorem cx60 {P : Program} {X : FuncId → List Arg → List (Bool × List Cell) → List (Option (List Cell)) → Prop} {a : List Arg} {Q : List (Bool × List Cell) → List (Option (List Cell)) → Prop} (h : ∃ b vals outs, a = b ∧ D P X (.call 60 b vals outs) ∧ Q vals outs) : CallS P X 60 a Q := ⟨h⟩

set_option maxHeartbeats 2000000 in
set_option maxRecDepth 100000 in
theorem tx61 {d : Dsk} {f : Fau} (hd : zD d ≤ 2000000 := by first | assumption | omega | (simp; done) | (simp; omega)) (hc : 0 ≤ f.cut := by first | assumption | omega | (simp; done) | (simp; omega)) (hn : ∀ w ∈ d.cache, 0 ≤ w.n ∧ w.n < d.secs.length := by first | assumption | omega | (simp; done) | (simp; omega)) : T 61 [.own true 0 0 (dskC true d), .val true (fauC f)] [] [some (dskC true (losD d f)), none] := by
  refine w_call md [] Try.func61 rfl ?_
  have hz : zD d = d.secs.length + cnt List.length d.secs + (d.cache.length + cnt (fun w : Wri => w.b.length) d.cache) + d.faults.length := rfl
  obtain ⟨p, q, c⟩ := f
  obtain ⟨k, rfl⟩ : ∃ k : Nat, c = k := ⟨c.toNat, by simp only at hc; omega⟩
  have hlb := lstI_b (keep := q) (n := min d.cache.length 20)
  repeat' ((conv => whnf); (first | refine jA fun _ => ?_ | refine jB fun _ => ?_ | refine kC (fun _ => ?_) fun _ => ?_ | refine jst ?_ | exact ⟨rfl, rfl⟩ | exact jV | fail))
  conv => whnf
  refine bstep (w_outE 0 [slE true d.secs] d.cache [i6 d.ops, slE true d.faults, b1 d.down] 2) ?_
  refine bstep (w_frz 3 d.cache) ?_
  refine bstep (w_outE 0 [] d.secs [.ref 3 0 d.cache.length 2, i6 d.ops, slE true d.faults, b1 d.down] 1) ?_
  repeat' ((conv => whnf); (first | refine k0 ?_ | refine jA fun _ => ?_ | refine jB fun _ => ?_ | refine kC (fun _ => ?_) fun _ => ?_ | refine jst ?_ | exact ⟨rfl, rfl⟩ | exact jV | fail))
  conv => whnf
  refine loopk (ι := Nat) (fun i => i ≤ min d.cache.length 20) (fun i => min d.cache.length 20 - i) (0) [0, 3] (fun i => [(4, .v false [i6 (lstI q i)]), (5, .v false [i6 i])]) [none, none, none, none, none] ?_
  refine ⟨by omega, ?_, fun i hi => ?_⟩
  · exact jw [0]
  · repeat' ((conv => whnf); (first | refine k0 ?_ | refine jst ?_ | exact ⟨rfl, rfl⟩ | exact jV | fail))
    conv => whnf
    refine ⟨fun hlt => ?_, fun hge => ?_⟩
    · repeat' ((conv => whnf); (first | refine k0 ?_ | refine jst ?_ | exact ⟨rfl, rfl⟩ | exact jV | fail))
      conv => whnf
      refine ⟨fun h2 => ?_, fun h2 => ?_⟩
      · have h20 : i < 20 := by omega
        repeat' ((conv => whnf); (first | refine And.intro (shk0 h20) (Exists.intro _ (And.intro (shk h20) ?_)) | refine k0 ?_ | refine jA fun _ => ?_ | refine jB fun _ => ?_ | refine kC (fun _ => ?_) fun _ => ?_ | refine jst ?_ | exact ⟨rfl, rfl⟩ | exact jV | fail))
        · refine ⟨⟨i + 1, by omega⟩, by simp only; omega, ?_⟩
          exact w_autoX [0] (by (conv => whnf); exact And.intro (by kernel_rfl) (And.intro (by kernel_rfl) (by repeat' (first | (with_reducible exact rfl) | ((conv => whnf); first | exact trivial | exact tvi (lstI_y (bitK_y ‹_›)).symm | exact rfl | exact tvi (by first | omega | (dsimp only; omega) | (simp; done)) | exact tvr (by first | omega | (dsimp only; omega) | (simp; done) | (simp; omega)) | exact ⟨rfl, clo_i, by first | rfl | rw [List.take_length] | assumption⟩ | refine And.intro ?_ ?_)))))
        · refine ⟨⟨i + 1, by omega⟩, by simp only; omega, ?_⟩
          exact w_autoX [0] (by (conv => whnf); exact And.intro (by kernel_rfl) (And.intro (by kernel_rfl) (by repeat' (first | (with_reducible exact rfl) | ((conv => whnf); first | exact trivial | exact tvi (lstI_n (bitK_n ‹_›)).symm | exact rfl | exact tvi (by first | omega | (dsimp only; omega) | (simp; done)) | exact tvr (by first | omega | (dsimp only; omega) | (simp; done) | (simp; omega)) | exact ⟨rfl, clo_i, by first | rfl | rw [List.take_length] | assumption⟩ | refine And.intro ?_ ?_)))))
      · obtain rfl : i = min d.cache.length 20 := by omega
        repeat' ((conv => whnf); (first | refine k0 ?_ | refine jA fun _ => ?_ | refine jB fun _ => ?_ | refine kC (fun _ => ?_) fun _ => ?_ | refine jst ?_ | exact ⟨rfl, rfl⟩ | exact jV | fail))
        conv => whnf
        refine loopk (ι := Nat) (fun i => (i : Int) ≤ lstI q (min d.cache.length 20) + 1) (fun i => (lstI q (min d.cache.length 20) + 1).toNat - i) (0) [0, 3, 4] (fun i => [(6, .v false [i6 i])]) [none, none, none, none, some fun i => nE (losS ⟨p, q, k⟩ d.cache d.secs (lstI q (min d.cache.length 20)) i)] ?_
        refine ⟨by omega, ?_, fun i hi => ?_⟩
        · exact w_autoX [0] (by (conv => whnf); exact And.intro (by kernel_rfl) (And.intro (by kernel_rfl) (by repeat' (first | (with_reducible exact rfl) | ((conv => whnf); first | exact trivial | exact (by rw [losS_0]; exact ⟨rfl, cs_shal _, rfl⟩) | exact (by rw [losS_0]; exact ⟨rfl, by first | exact closed_cs _ | exact cs_closed _ | simp, rfl⟩) | exact rfl | exact tvi (by first | omega | (dsimp only; omega) | (simp; done)) | exact tvr (by first | omega | (dsimp only; omega) | (simp; done) | (simp; omega)) | exact ⟨rfl, clo_i, by first | rfl | rw [List.take_length] | assumption⟩ | refine And.intro ?_ ?_)))))
        · repeat' ((conv => whnf); (first | refine k0 ?_ | refine jst ?_ | exact ⟨rfl, rfl⟩ | exact jV | fail))
          conv => whnf
          refine ⟨fun hlt => ?_, fun hge => ?_⟩
          · have hi2 : i < d.cache.length := by omega
            have h20 : i < 20 := by omega
            have hk' : (List.take k d.cache[i].b).length ≤ d.cache[i].b.length := by rw [List.length_take]; omega
            have hn' := hn _ (List.getElem_mem hi2)
            have hc' := cnt_ge (c := fun w : Wri => w.b.length) hi2
            repeat' ((conv => whnf); (first | refine And.intro (shk0 h20) (Exists.intro _ (And.intro (shk h20) ?_)) | refine Exists.intro _ (Exists.intro _ (Exists.intro _ (And.intro rfl (And.intro bndN (And.intro (sl_to (by have h : (k : Int) < d.cache[i].b.length := ‹_›; omega)) ?_))))) | refine Exists.intro _ (Exists.intro (cs true (_ : List UInt8)) (And.intro rfl (And.intro ⟨Nat.le_refl _, bgb (by omega), bg (by omega)⟩ (Exists.intro _ (And.intro ape (Exists.intro _ (And.intro (Nat.zero_add _) ?_))))))) | refine ko (ptSec (i := (d.cache[i].n).toNat) (by rw [losS_len]; omega)) ?_ | refine k0 ?_ | refine jA fun _ => ?_ | refine jB fun _ => ?_ | refine kC (fun _ => ?_) fun _ => ?_ | refine jst ?_ | exact ⟨rfl, rfl⟩ | exact jV | fail))
            · refine ⟨⟨i + 1, by omega⟩, by simp only; omega, ?_⟩
              exact w_autoX [0] (by (conv => whnf); exact And.intro (by kernel_rfl) (And.intro (by kernel_rfl) (by repeat' (first | (with_reducible exact rfl) | ((conv => whnf); first | exact trivial | exact (by rw [losS_no (by omega) (bitK_z ‹_›)]; exact ⟨rfl, by simp, rfl⟩) | exact rfl | exact tvi (by first | omega | (dsimp only; omega) | (simp; done)) | exact tvr (by first | omega | (dsimp only; omega) | (simp; done) | (simp; omega)) | exact ⟨rfl, clo_i, by first | rfl | rw [List.take_length] | assumption⟩ | refine And.intro ?_ ?_)))))
            · refine ⟨⟨i + 1, by omega⟩, by simp only; omega, (w_inE 4 _ (cs true ((losS ⟨p, q, k⟩ d.cache d.secs (lstI q (min d.cache.length 20)) i).take (d.cache[i].n).toNat)) (d.cache[i].b.take k) (cs true ((losS ⟨p, q, k⟩ d.cache d.secs (lstI q (min d.cache.length 20)) i).drop ((d.cache[i].n).toNat + 1))) (d.cache[i].b.take k).length 1 (csSec (by rw [losS_len]; omega)) (hi := rfl) (h1 := rfl)).trans ?_⟩
              exact w_autoX [0] (by (conv => whnf); exact And.intro (by kernel_rfl) (And.intro (by kernel_rfl) (by repeat' (first | (with_reducible exact rfl) | ((conv => whnf); first | exact trivial | exact (by rw [losS_end hi2 h20 ‹_› (bitK_o ‹_›)]; exact ⟨rfl, by simp, rfl⟩) | exact rfl | exact tvi (by first | omega | (dsimp only; omega) | (simp; done)) | exact tvr (by first | omega | (dsimp only; omega) | (simp; done) | (simp; omega)) | exact ⟨rfl, clo_i, by first | rfl | rw [List.take_length] | assumption⟩ | refine And.intro ?_ ?_)))))
            · refine ⟨⟨i + 1, by omega⟩, by simp only; omega, (w_inE 4 _ (cs true ((losS ⟨p, q, k⟩ d.cache d.secs (lstI q (min d.cache.length 20)) i).take (d.cache[i].n).toNat)) (d.cache[i].b) (cs true ((losS ⟨p, q, k⟩ d.cache d.secs (lstI q (min d.cache.length 20)) i).drop ((d.cache[i].n).toNat + 1))) (d.cache[i].b).length 1 (csSec (by rw [losS_len]; omega)) (hi := rfl) (h1 := rfl)).trans ?_⟩
              exact w_autoX [0] (by (conv => whnf); exact And.intro (by kernel_rfl) (And.intro (by kernel_rfl) (by repeat' (first | (with_reducible exact rfl) | ((conv => whnf); first | exact trivial | exact (by rw [losS_end hi2 h20 ‹_› (bitK_o ‹_›), List.take_of_length_le (by have h : ¬ (k : Int) < d.cache[i].b.length := ‹_›; omega)]; exact ⟨rfl, by simp, rfl⟩) | exact rfl | exact tvi (by first | omega | (dsimp only; omega) | (simp; done)) | exact tvr (by first | omega | (dsimp only; omega) | (simp; done) | (simp; omega)) | exact ⟨rfl, clo_i, by first | rfl | rw [List.take_length] | assumption⟩ | refine And.intro ?_ ?_)))))
            · refine ⟨⟨i + 1, by omega⟩, by simp only; omega, (w_inE 4 _ (cs true ((losS ⟨p, q, k⟩ d.cache d.secs (lstI q (min d.cache.length 20)) i).take (d.cache[i].n).toNat)) (d.cache[i].b) (cs true ((losS ⟨p, q, k⟩ d.cache d.secs (lstI q (min d.cache.length 20)) i).drop ((d.cache[i].n).toNat + 1))) (d.cache[i].b).length 1 (csSec (by rw [losS_len]; omega)) (hi := rfl) (h1 := rfl)).trans ?_⟩
              exact w_autoX [0] (by (conv => whnf); exact And.intro (by kernel_rfl) (And.intro (by kernel_rfl) (by repeat' (first | (with_reducible exact rfl) | ((conv => whnf); first | exact trivial | exact (by rw [losS_yes hi2 h20 (by omega) (bitK_o ‹_›)]; exact ⟨rfl, by simp, rfl⟩) | exact rfl | exact tvi (by first | omega | (dsimp only; omega) | (simp; done)) | exact tvr (by first | omega | (dsimp only; omega) | (simp; done) | (simp; omega)) | exact ⟨rfl, clo_i, by first | rfl | rw [List.take_length] | assumption⟩ | refine And.intro ?_ ?_)))))
          · obtain rfl : i = (lstI q (min d.cache.length 20) + 1).toNat := by omega
            repeat' ((conv => whnf); (first | ((with_reducible apply bfin); exact (w_inE 0 5 [.ref 4 0 d.secs.length 1] ([] : List Wri) [i6 d.ops, slE true d.faults, b1 true] 0 2 rfl).trans (w_inE 0 4 [] (losS ⟨p, q, k⟩ d.cache d.secs (lstI q (min d.cache.length 20)) (lstI q (min d.cache.length 20) + 1).toNat) [slE true ([] : List Wri), i6 d.ops, slE true d.faults, b1 true] d.secs.length 1 (by rw [losS_all]) (hk := losS_len))) | refine k0 ?_ | refine jA fun _ => ?_ | refine jB fun _ => ?_ | refine kC (fun _ => ?_) fun _ => ?_ | refine jst ?_ | exact ⟨rfl, rfl⟩ | exact jV | fail))
    · obtain rfl : i = min d.cache.length 20 := by omega
      repeat' ((conv => whnf); (first | refine k0 ?_ | refine jA fun _ => ?_ | refine jB fun _ => ?_ | refine kC (fun _ => ?_) fun _ => ?_ | refine jst ?_ | exact ⟨rfl, rfl⟩ | exact jV | fail))
      conv => whnf
      refine loopk (ι := Nat) (fun i => (i : Int) ≤ lstI q (min d.cache.length 20) + 1) (fun i => (lstI q (min d.cache.length 20) + 1).toNat - i) (0) [0, 3, 4] (fun i => [(6, .v false [i6 i])]) [none, none, none, none, some fun i => nE (losS ⟨p, q, k⟩ d.cache d.secs (lstI q (min d.cache.length 20)) i)] ?_
      refine ⟨by omega, ?_, fun i hi => ?_⟩
      · exact w_autoX [0] (by (conv => whnf); exact And.intro (by kernel_rfl) (And.intro (by kernel_rfl) (by repeat' (first | (with_reducible exact rfl) | ((conv => whnf); first | exact trivial | exact (by rw [losS_0]; exact ⟨rfl, cs_shal _, rfl⟩) | exact (by rw [losS_0]; exact ⟨rfl, by first | exact closed_cs _ | exact cs_closed _ | simp, rfl⟩) | exact rfl | exact tvi (by first | omega | (dsimp only; omega) | (simp; done)) | exact tvr (by first | omega | (dsimp only; omega) | (simp; done) | (simp; omega)) | exact ⟨rfl, clo_i, by first | rfl | rw [List.take_length] | assumption⟩ | refine And.intro ?_ ?_)))))
      · repeat' ((conv => whnf); (first | refine k0 ?_ | refine jst ?_ | exact ⟨rfl, rfl⟩ | exact jV | fail))
        conv => whnf
        refine ⟨fun hlt => ?_, fun hge => ?_⟩
        · have hi2 : i < d.cache.length := by omega
          have h20 : i < 20 := by omega
          have hk' : (List.take k d.cache[i].b).length ≤ d.cache[i].b.length := by rw [List.length_take]; omega
          have hn' := hn _ (List.getElem_mem hi2)
          have hc' := cnt_ge (c := fun w : Wri => w.b.length) hi2
          repeat' ((conv => whnf); (first | refine And.intro (shk0 h20) (Exists.intro _ (And.intro (shk h20) ?_)) | refine Exists.intro _ (Exists.intro _ (Exists.intro _ (And.intro rfl (And.intro bndN (And.intro (sl_to (by have h : (k : Int) < d.cache[i].b.length := ‹_›; omega)) ?_))))) | refine Exists.intro _ (Exists.intro (cs true (_ : List UInt8)) (And.intro rfl (And.intro ⟨Nat.le_refl _, bgb (by omega), bg (by omega)⟩ (Exists.intro _ (And.intro ape (Exists.intro _ (And.intro (Nat.zero_add _) ?_))))))) | refine ko (ptSec (i := (d.cache[i].n).toNat) (by rw [losS_len]; omega)) ?_ | refine k0 ?_ | refine jA fun _ => ?_ | refine jB fun _ => ?_ | refine kC (fun _ => ?_) fun _ => ?_ | refine jst ?_ | exact ⟨rfl, rfl⟩ | exact jV | fail))
          · refine ⟨⟨i + 1, by omega⟩, by simp only; omega, ?_⟩
            exact w_autoX [0] (by (conv => whnf); exact And.intro (by kernel_rfl) (And.intro (by kernel_rfl) (by repeat' (first | (with_reducible exact rfl) | ((conv => whnf); first | exact trivial | exact (by rw [losS_no (by omega) (bitK_z ‹_›)]; exact ⟨rfl, by simp, rfl⟩) | exact rfl | exact tvi (by first | omega | (dsimp only; omega) | (simp; done)) | exact tvr (by first | omega | (dsimp only; omega) | (simp; done) | (simp; omega)) | exact ⟨rfl, clo_i, by first | rfl | rw [List.take_length] | assumption⟩ | refine And.intro ?_ ?_)))))
          · refine ⟨⟨i + 1, by omega⟩, by simp only; omega, (w_inE 4 _ (cs true ((losS ⟨p, q, k⟩ d.cache d.secs (lstI q (min d.cache.length 20)) i).take (d.cache[i].n).toNat)) (d.cache[i].b.take k) (cs true ((losS ⟨p, q, k⟩ d.cache d.secs (lstI q (min d.cache.length 20)) i).drop ((d.cache[i].n).toNat + 1))) (d.cache[i].b.take k).length 1 (csSec (by rw [losS_len]; omega)) (hi := rfl) (h1 := rfl)).trans ?_⟩
            exact w_autoX [0] (by (conv => whnf); exact And.intro (by kernel_rfl) (And.intro (by kernel_rfl) (by repeat' (first | (with_reducible exact rfl) | ((conv => whnf); first | exact trivial | exact (by rw [losS_end hi2 h20 ‹_› (bitK_o ‹_›)]; exact ⟨rfl, by simp, rfl⟩) | exact rfl | exact tvi (by first | omega | (dsimp only; omega) | (simp; done)) | exact tvr (by first | omega | (dsimp only; omega) | (simp; done) | (simp; omega)) | exact ⟨rfl, clo_i, by first | rfl | rw [List.take_length] | assumption⟩ | refine And.intro ?_ ?_)))))
          · refine ⟨⟨i + 1, by omega⟩, by simp only; omega, (w_inE 4 _ (cs true ((losS ⟨p, q, k⟩ d.cache d.secs (lstI q (min d.cache.length 20)) i).take (d.cache[i].n).toNat)) (d.cache[i].b) (cs true ((losS ⟨p, q, k⟩ d.cache d.secs (lstI q (min d.cache.length 20)) i).drop ((d.cache[i].n).toNat + 1))) (d.cache[i].b).length 1 (csSec (by rw [losS_len]; omega)) (hi := rfl) (h1 := rfl)).trans ?_⟩
            exact w_autoX [0] (by (conv => whnf); exact And.intro (by kernel_rfl) (And.intro (by kernel_rfl) (by repeat' (first | (with_reducible exact rfl) | ((conv => whnf); first | exact trivial | exact (by rw [losS_end hi2 h20 ‹_› (bitK_o ‹_›), List.take_of_length_le (by have h : ¬ (k : Int) < d.cache[i].b.length := ‹_›; omega)]; exact ⟨rfl, by simp, rfl⟩) | exact rfl | exact tvi (by first | omega | (dsimp only; omega) | (simp; done)) | exact tvr (by first | omega | (dsimp only; omega) | (simp; done) | (simp; omega)) | exact ⟨rfl, clo_i, by first | rfl | rw [List.take_length] | assumption⟩ | refine And.intro ?_ ?_)))))
          · refine ⟨⟨i + 1, by omega⟩, by simp only; omega, (w_inE 4 _ (cs true ((losS ⟨p, q, k⟩ d.cache d.secs (lstI q (min d.cache.length 20)) i).take (d.cache[i].n).toNat)) (d.cache[i].b) (cs true ((losS ⟨p, q, k⟩ d.cache d.secs (lstI q (min d.cache.length 20)) i).drop ((d.cache[i].n).toNat + 1))) (d.cache[i].b).length 1 (csSec (by rw [losS_len]; omega)) (hi := rfl) (h1 := rfl)).trans ?_⟩
            exact w_autoX [0] (by (conv => whnf); exact And.intro (by kernel_rfl) (And.intro (by kernel_rfl) (by repeat' (first | (with_reducible exact rfl) | ((conv => whnf); first | exact trivial | exact (by rw [losS_yes hi2 h20 (by omega) (bitK_o ‹_›)]; exact ⟨rfl, by simp, rfl⟩) | exact rfl | exact tvi (by first | omega | (dsimp only; omega) | (simp; done)) | exact tvr (by first | omega | (dsimp only; omega) | (simp; done) | (simp; omega)) | exact ⟨rfl, clo_i, by first | rfl | rw [List.take_length] | assumption⟩ | refine And.intro ?_ ?_)))))
        · obtain rfl : i = (lstI q (min d.cache.length 20) + 1).toNat := by omega
          repeat' ((conv => whnf); (first | ((with_reducible apply bfin); exact (w_inE 0 5 [.ref 4 0 d.secs.length 1] ([] : List Wri) [i6 d.ops, slE true d.faults, b1 true] 0 2 rfl).trans (w_inE 0 4 [] (losS ⟨p, q, k⟩ d.cache d.secs (lstI q (min d.cache.length 20)) (lstI q (min d.cache.length 20) + 1).toNat) [slE true ([] : List Wri), i6 d.ops, slE true d.faults, b1 true] d.secs.length 1 (by rw [losS_all]) (hk := losS_len))) | refine k0 ?_ | refine jA fun _ => ?_ | refine jB fun _ => ?_ | refine kC (fun _ => ?_) fun _ => ?_ | refine jst ?_ | exact ⟨rfl, rfl⟩ | exact jV | fail))

theorem cx61 {P : Program} {X : FuncId → List Arg → List (Bool × List Cell) → List (Option (List Cell)) → Prop} {a : List Arg} {Q : List (Bool × List Cell) → List (Option (List Cell)) → Prop} (h : ∃ b vals outs, a = b ∧ D P X (.call 61 b vals outs) ∧ Q vals outs) : CallS P X 61 a Q := ⟨h⟩

set_option maxRecDepth 100000 in
theorem tx48 {d : Dsk} {n : Int} {b : List UInt8} (hd : zD d ≤ 1000000 := by first | assumption | omega | (simp; done) | (simp; omega)) (hb : b.length ≤ 500000 := by first | assumption | omega | (simp; done) | (simp; omega)) (hcut : ∀ f ∈ d.faults, 0 ≤ f.cut := by first | assumption | omega | (simp; done) | (simp; omega)) (hn0 : 0 ≤ n ∧ n < d.secs.length := by first | assumption | omega | (simp; done) | (simp; omega)) (ho : 0 ≤ d.ops := by first | assumption | omega | (simp; done) | (simp; omega)) (hl : d.cache.length < 60 := by first | assumption | omega | (simp; done) | (simp; omega)) (hn : ∀ w ∈ d.cache, 0 ≤ w.n ∧ w.n < d.secs.length := by first | assumption | omega | (simp; done) | (simp; omega)) : T 48 [.own true 0 0 (dskC true d), aI n, aE b] [vI (wrD d n b).2] [some (dskC true (wrD d n b).1), none, none] := by
  refine w_call md [] Try.func48 rfl ?_
  obtain ⟨secs, cache, ops, faults, down⟩ := d
  have hz : zD ⟨secs, cache, ops, faults, down⟩ = secs.length + cnt List.length secs + (cache.length + cnt (fun w : Wri => w.b.length) cache) + faults.length := rfl
  have hd2 : zD ⟨secs, cache, ops, faults, down⟩ ≤ 2000000 := by omega
  simp only at ho hl hn0 hn hcut
  cases down
  · repeat' ((conv => whnf); (first | refine k0 ?_ | (apply cx60; refine kl tx60 ?_) | (apply cx61; refine kl tx61 ?_) | refine jst ?_ | exact ⟨rfl, rfl⟩ | exact jV | fail))
    conv => whnf
    refine ⟨fun hlt => ?_, fun hge => ?_⟩
    · rw [wrD_9 (.inr (by simp only; omega))]
      repeat' ((conv => whnf); (first | refine k0 ?_ | refine jA fun _ => ?_ | refine jB fun _ => ?_ | refine kC (fun _ => ?_) fun _ => ?_ | (apply cx60; refine kl tx60 ?_) | (apply cx61; refine kl tx61 ?_) | refine jst ?_ | exact ⟨rfl, rfl⟩ | exact jV | fail))
    · have hge' : ¬ ops ≥ 100000 := hge
      cases hf : fltD ⟨secs, cache, ops, faults, false⟩
      · rw [wrD_n (by intro h; rcases h with h | h; cases h; exact hge h) hf]
        repeat' ((conv => whnf); (first | refine jA fun _ => ?_ | refine jB fun _ => ?_ | refine kC (fun _ => ?_) fun _ => ?_ | (apply cx60; refine kl tx60 ?_) | (apply cx61; refine kl tx61 ?_) | refine jst ?_ | exact ⟨rfl, rfl⟩ | exact jV | fail))
        conv => whnf
        refine k0 ?_
        repeat' ((conv => whnf); (first | refine jA fun _ => ?_ | refine jB fun _ => ?_ | refine kC (fun _ => ?_) fun _ => ?_ | (apply cx60; refine kl tx60 ?_) | (apply cx61; refine kl tx61 ?_) | refine jst ?_ | exact ⟨rfl, rfl⟩ | exact jV | fail))
        conv => whnf
        refine bstep (w_outE 0 [slE true secs] cache [i6 ops, slE true faults, b1 false] 2) ?_
        refine k0 ?_
        repeat' ((conv => whnf); (first | refine jA fun _ => ?_ | refine jB fun _ => ?_ | refine kC (fun _ => ?_) fun _ => ?_ | (apply cx60; refine kl tx60 ?_) | (apply cx61; refine kl tx61 ?_) | refine jst ?_ | exact ⟨rfl, rfl⟩ | exact jV | fail))
        conv => whnf
        refine bstep (w_outE 0 [] secs [.ref 3 0 cache.length 2, i6 ops, slE true faults, b1 false] 1) ?_
        refine bstep (w_outE 0 [.ref 4 0 secs.length 1, .ref 3 0 cache.length 2, i6 ops] faults [b1 false] 3) ?_
        repeat' ((conv => whnf); (first | refine Exists.intro _ (Exists.intro (cs true (_ : List UInt8)) (And.intro rfl (And.intro ⟨Nat.le_refl _, bgb (by omega), bg (by omega)⟩ (Exists.intro _ (And.intro ape (Exists.intro _ (And.intro (Nat.zero_add _) ?_))))))) | refine Exists.intro _ (Exists.intro _ (And.intro rfl (And.intro ⟨by simp <;> omega, bgb (by omega), bg (by omega)⟩ (apR (xs := cache) ?_)))) | ((with_reducible apply bfin); exact (((w_inE 183 135 (cs true cache ++ [i6 n]) b [] b.length 1 (wr_app (n := n))).trans (w_inE 0 183 [.ref 4 0 secs.length 1] (cache ++ [⟨n, b⟩]) [i6 (ops + 1), .ref 5 0 faults.length 3, b1 false] (cache.length + 1) 2 rfl)).trans (w_inE 0 4 [] secs [slE true (cache ++ [⟨n, b⟩]), i6 (ops + 1), .ref 5 0 faults.length 3, b1 false] secs.length 1 rfl)).trans (w_inE 0 5 [slE true secs, slE true (cache ++ [⟨n, b⟩]), i6 (ops + 1)] faults [b1 false] faults.length 3 rfl)) | refine k0 ?_ | refine jA fun _ => ?_ | refine jB fun _ => ?_ | refine kC (fun _ => ?_) fun _ => ?_ | (apply cx60; refine kl tx60 ?_) | (apply cx61; refine kl tx61 ?_) | refine jst ?_ | exact ⟨rfl, rfl⟩ | exact jV | fail))
        · exact absurd ‹_ = true› (by rw [hf]; decide)
      · rename_i f
        rw [wrD_f (by intro h; rcases h with h | h; cases h; exact hge h) hf]
        have e1 : (fltD ⟨secs, cache, ops, faults, false⟩).getD ⟨0, 0, 0⟩ = f := by rw [hf]; rfl
        have h1 : 0 ≤ ((fltD ⟨secs, cache, ops, faults, false⟩).getD ⟨0, 0, 0⟩).cut := by rw [e1]; exact hcut f (List.mem_of_find?_eq_some hf)
        have h2 : zD ⟨secs, cache ++ [⟨n, b⟩], ops + 1, faults, false⟩ ≤ 2000000 := by
          have e : zD ⟨secs, cache ++ [⟨n, b⟩], ops + 1, faults, false⟩ = secs.length + cnt List.length secs + ((cache ++ [(⟨n, b⟩ : Wri)]).length + cnt (fun w : Wri => w.b.length) (cache ++ [⟨n, b⟩])) + faults.length := rfl
          have e2 : cnt (fun w : Wri => w.b.length) (cache ++ [⟨n, b⟩]) = cnt (fun w : Wri => w.b.length) cache + b.length := by rw [cnt_app]; rfl
          rw [e, e2, List.length_append, List.length_singleton]; omega
        have h3 : ∀ w ∈ cache ++ [(⟨n, b⟩ : Wri)], 0 ≤ w.n ∧ w.n < secs.length := by
          intro w hw; rcases List.mem_append.1 hw with hw | hw
          · exact hn w hw
          · obtain rfl := List.mem_singleton.1 hw; exact hn0
        repeat' ((conv => whnf); (first | refine jA fun _ => ?_ | refine jB fun _ => ?_ | refine kC (fun _ => ?_) fun _ => ?_ | (apply cx60; refine kl tx60 ?_) | (apply cx61; refine kl tx61 ?_) | refine jst ?_ | exact ⟨rfl, rfl⟩ | exact jV | fail))
        conv => whnf
        refine k0 ?_
        repeat' ((conv => whnf); (first | refine jA fun _ => ?_ | refine jB fun _ => ?_ | refine kC (fun _ => ?_) fun _ => ?_ | (apply cx60; refine kl tx60 ?_) | (apply cx61; refine kl tx61 ?_) | refine jst ?_ | exact ⟨rfl, rfl⟩ | exact jV | fail))
        conv => whnf
        refine bstep (w_outE 0 [slE true secs] cache [i6 ops, slE true faults, b1 false] 2) ?_
        refine k0 ?_
        repeat' ((conv => whnf); (first | refine jA fun _ => ?_ | refine jB fun _ => ?_ | refine kC (fun _ => ?_) fun _ => ?_ | (apply cx60; refine kl tx60 ?_) | (apply cx61; refine kl tx61 ?_) | refine jst ?_ | exact ⟨rfl, rfl⟩ | exact jV | fail))
        conv => whnf
        refine bstep (w_outE 0 [] secs [.ref 3 0 cache.length 2, i6 ops, slE true faults, b1 false] 1) ?_
        refine bstep (w_outE 0 [.ref 4 0 secs.length 1, .ref 3 0 cache.length 2, i6 ops] faults [b1 false] 3) ?_
        repeat' ((conv => whnf); (first | refine Exists.intro _ (Exists.intro (cs true (_ : List UInt8)) (And.intro rfl (And.intro ⟨Nat.le_refl _, bgb (by omega), bg (by omega)⟩ (Exists.intro _ (And.intro ape (Exists.intro _ (And.intro (Nat.zero_add _) ?_))))))) | refine Exists.intro _ (Exists.intro _ (And.intro rfl (And.intro ⟨by simp <;> omega, bgb (by omega), bg (by omega)⟩ (apR (xs := cache) ?_)))) | (apply cx60; refine kl (tx60 (d := ⟨secs, cache, ops, faults, false⟩)) ?_) | refine jA fun _ => ?_ | refine jB fun _ => ?_ | refine kC (fun _ => ?_) fun _ => ?_ | (apply cx60; refine kl tx60 ?_) | (apply cx61; refine kl tx61 ?_) | refine jst ?_ | exact ⟨rfl, rfl⟩ | exact jV | fail))
        · conv => whnf
          refine k0 ?_
          repeat' ((conv => whnf); (first | refine Exists.intro _ (Exists.intro (cs true (_ : List UInt8)) (And.intro rfl (And.intro ⟨Nat.le_refl _, bgb (by omega), bg (by omega)⟩ (Exists.intro _ (And.intro ape (Exists.intro _ (And.intro (Nat.zero_add _) ?_))))))) | refine Exists.intro _ (Exists.intro _ (And.intro rfl (And.intro ⟨by simp <;> omega, bgb (by omega), bg (by omega)⟩ (apR (xs := cache) ?_)))) | (apply cx60; refine kl (tx60 (d := ⟨secs, cache, ops, faults, false⟩)) ?_) | refine jA fun _ => ?_ | refine jB fun _ => ?_ | refine kC (fun _ => ?_) fun _ => ?_ | (apply cx60; refine kl tx60 ?_) | (apply cx61; refine kl tx61 ?_) | refine jst ?_ | exact ⟨rfl, rfl⟩ | exact jV | fail))
          conv => whnf
          refine k0 ?_
          repeat' ((conv => whnf); (first | refine Exists.intro _ (Exists.intro (cs true (_ : List UInt8)) (And.intro rfl (And.intro ⟨Nat.le_refl _, bgb (by omega), bg (by omega)⟩ (Exists.intro _ (And.intro ape (Exists.intro _ (And.intro (Nat.zero_add _) ?_))))))) | refine Exists.intro _ (Exists.intro _ (And.intro rfl (And.intro ⟨by simp <;> omega, bgb (by omega), bg (by omega)⟩ (apR (xs := cache) ?_)))) | (apply cx60; refine kl (tx60 (d := ⟨secs, cache, ops, faults, false⟩)) ?_) | refine jA fun _ => ?_ | refine jB fun _ => ?_ | refine kC (fun _ => ?_) fun _ => ?_ | (apply cx60; refine kl tx60 ?_) | (apply cx61; refine kl tx61 ?_) | refine jst ?_ | exact ⟨rfl, rfl⟩ | exact jV | fail))
          · conv => whnf
            refine k0 ?_
            repeat' ((conv => whnf); (first | refine Exists.intro _ (Exists.intro (cs true (_ : List UInt8)) (And.intro rfl (And.intro ⟨Nat.le_refl _, bgb (by omega), bg (by omega)⟩ (Exists.intro _ (And.intro ape (Exists.intro _ (And.intro (Nat.zero_add _) ?_))))))) | refine Exists.intro _ (Exists.intro _ (And.intro rfl (And.intro ⟨by simp <;> omega, bgb (by omega), bg (by omega)⟩ (apR (xs := cache) ?_)))) | refine jA fun _ => ?_ | refine jB fun _ => ?_ | refine kC (fun _ => ?_) fun _ => ?_ | (apply cx60; refine kl tx60 ?_) | (apply cx61; refine kl tx61 ?_) | refine jst ?_ | exact ⟨rfl, rfl⟩ | exact jV | fail))
            conv => whnf
            refine k0 ?_
            repeat' ((conv => whnf); (first | refine Exists.intro _ (Exists.intro (cs true (_ : List UInt8)) (And.intro rfl (And.intro ⟨Nat.le_refl _, bgb (by omega), bg (by omega)⟩ (Exists.intro _ (And.intro ape (Exists.intro _ (And.intro (Nat.zero_add _) ?_))))))) | refine Exists.intro _ (Exists.intro _ (And.intro rfl (And.intro ⟨by simp <;> omega, bgb (by omega), bg (by omega)⟩ (apR (xs := cache) ?_)))) | refine jA fun _ => ?_ | refine jB fun _ => ?_ | refine kC (fun _ => ?_) fun _ => ?_ | (apply cx60; refine kl tx60 ?_) | (apply cx61; refine kl tx61 ?_) | refine jst ?_ | exact ⟨rfl, rfl⟩ | exact jV | fail))
            conv => whnf
            refine bstep (w_inE 183 135 (cs true cache ++ [i6 n]) b [] b.length 1 (wr_app (n := n))) ?_
            refine bstep (w_inE 0 183 [.ref 4 0 secs.length 1] (cache ++ [⟨n, b⟩]) [i6 (ops + 1), .ref 5 0 faults.length 3, b1 false] (cache.length + 1) 2 rfl) ?_
            refine bstep (w_inE 0 4 [] secs [slE true (cache ++ [⟨n, b⟩]), i6 (ops + 1), .ref 5 0 faults.length 3, b1 false] secs.length 1 rfl) ?_
            refine bstep (w_inE (cs1 := dskC true (⟨secs, cache ++ [(⟨n, b⟩ : Wri)], ops + 1, faults, false⟩ : Dsk)) 0 5 [slE true secs, slE true (cache ++ [⟨n, b⟩]), i6 (ops + 1)] faults [b1 false] faults.length 3 rfl) ?_
            repeat' ((conv => whnf); (first | (apply cx61; refine kl (tx61 (d := (⟨secs, cache ++ [(⟨n, b⟩ : Wri)], ops + 1, faults, false⟩ : Dsk)) (f := (fltD ⟨secs, cache, ops, faults, false⟩).getD ⟨0, 0, 0⟩)) ?_) | refine k0 ?_ | refine jA fun _ => ?_ | refine jB fun _ => ?_ | refine kC (fun _ => ?_) fun _ => ?_ | (apply cx60; refine kl tx60 ?_) | (apply cx61; refine kl tx61 ?_) | refine jst ?_ | exact ⟨rfl, rfl⟩ | exact jV | fail))
            exact ⟨rfl, by rw [e1]⟩
          · exact absurd ‹_ = false› (by rw [hf]; simp)
  · rw [wrD_9 (.inl rfl)]
    repeat' ((conv => whnf); (first | refine k0 ?_ | refine jA fun _ => ?_ | refine jB fun _ => ?_ | refine kC (fun _ => ?_) fun _ => ?_ | (apply cx60; refine kl tx60 ?_) | (apply cx61; refine kl tx61 ?_) | refine jst ?_ | exact ⟨rfl, rfl⟩ | exact jV | fail))

theorem cx48 {P : Program} {X : FuncId → List Arg → List (Bool × List Cell) → List (Option (List Cell)) → Prop} {a : List Arg} {Q : List (Bool × List Cell) → List (Option (List Cell)) → Prop} (h : ∃ b vals outs, a = b ∧ D P X (.call 48 b vals outs) ∧ Q vals outs) : CallS P X 48 a Q := ⟨h⟩

set_option maxRecDepth 100000 in
theorem tx47 {d : Dsk} (hd : zD d ≤ 1000000 := by first | assumption | omega | (simp; done) | (simp; omega)) (hcut : ∀ f ∈ d.faults, 0 ≤ f.cut := by first | assumption | omega | (simp; done) | (simp; omega)) (ho : 0 ≤ d.ops := by first | assumption | omega | (simp; done) | (simp; omega)) (hn : ∀ w ∈ d.cache, 0 ≤ w.n ∧ w.n < d.secs.length := by first | assumption | omega | (simp; done) | (simp; omega)) : T 47 [.own true 0 0 (dskC true d)] [vI (flD d).2] [some (dskC true (flD d).1)] := by
  refine w_call md [] Try.func47 rfl ?_
  obtain ⟨secs, cache, ops, faults, down⟩ := d
  have hz : zD ⟨secs, cache, ops, faults, down⟩ = secs.length + cnt List.length secs + (cache.length + cnt (fun w : Wri => w.b.length) cache) + faults.length := rfl
  have hd2 : zD ⟨secs, cache, ops, faults, down⟩ ≤ 2000000 := by omega
  simp only at ho hn hcut
  cases down
  · repeat' ((conv => whnf); (first | refine k0 ?_ | (apply cx60; refine kl tx60 ?_) | (apply cx61; refine kl tx61 ?_) | refine jst ?_ | exact ⟨rfl, rfl⟩ | exact jV | fail))
    conv => whnf
    refine ⟨fun hlt => ?_, fun hge => ?_⟩
    · rw [flD_9 (.inr (by simp only; omega))]
      repeat' ((conv => whnf); (first | refine k0 ?_ | refine jA fun _ => ?_ | refine jB fun _ => ?_ | refine kC (fun _ => ?_) fun _ => ?_ | (apply cx60; refine kl tx60 ?_) | (apply cx61; refine kl tx61 ?_) | refine jst ?_ | exact ⟨rfl, rfl⟩ | exact jV | fail))
    · have hge' : ¬ ops ≥ 100000 := hge
      have h1 : 0 ≤ ((fltD ⟨secs, cache, ops, faults, false⟩).getD ⟨0, 0, 0⟩).cut := by
        cases hf : fltD ⟨secs, cache, ops, faults, false⟩ with
        | none => exact Int.le_refl 0
        | some f => exact hcut f (List.mem_of_find?_eq_some hf)
      have h2 : zD ⟨secs, cache, ops + 1, faults, false⟩ ≤ 2000000 := hd2
      repeat' ((conv => whnf); (first | refine jA fun _ => ?_ | refine jB fun _ => ?_ | refine kC (fun _ => ?_) fun _ => ?_ | (apply cx60; refine kl tx60 ?_) | (apply cx61; refine kl tx61 ?_) | refine jst ?_ | exact ⟨rfl, rfl⟩ | exact jV | fail))
      conv => whnf
      refine k0 ?_
      repeat' ((conv => whnf); (first | refine jA fun _ => ?_ | refine jB fun _ => ?_ | refine kC (fun _ => ?_) fun _ => ?_ | (apply cx60; refine kl tx60 ?_) | (apply cx61; refine kl tx61 ?_) | refine jst ?_ | exact ⟨rfl, rfl⟩ | exact jV | fail))
      conv => whnf
      refine bstep (w_outE 0 [slE true secs] cache [i6 ops, slE true faults, b1 false] 2) ?_
      refine bstep (w_outE 0 [] secs [.ref 1 0 cache.length 2, i6 ops, slE true faults, b1 false] 1) ?_
      refine bstep (w_outE 0 [.ref 2 0 secs.length 1, .ref 1 0 cache.length 2, i6 ops] faults [b1 false] 3) ?_
      refine k0 ?_
      repeat' ((conv => whnf); (first | (apply cx60; refine kl (tx60 (d := ⟨secs, cache, ops, faults, false⟩)) ?_) | refine jA fun _ => ?_ | refine jB fun _ => ?_ | refine kC (fun _ => ?_) fun _ => ?_ | (apply cx60; refine kl tx60 ?_) | (apply cx61; refine kl tx61 ?_) | refine jst ?_ | exact ⟨rfl, rfl⟩ | exact jV | fail))
      · conv => whnf
        refine k0 ?_
        repeat' ((conv => whnf); (first | refine jA fun _ => ?_ | refine jB fun _ => ?_ | refine kC (fun _ => ?_) fun _ => ?_ | (apply cx60; refine kl tx60 ?_) | (apply cx61; refine kl tx61 ?_) | refine jst ?_ | exact ⟨rfl, rfl⟩ | exact jV | fail))
        conv => whnf
        refine bstep (w_inE 0 1 [.ref 2 0 secs.length 1] cache [i6 (ops + 1), .ref 3 0 faults.length 3, b1 false] cache.length 2 rfl) ?_
        refine bstep (w_inE 0 2 [] secs [slE true cache, i6 (ops + 1), .ref 3 0 faults.length 3, b1 false] secs.length 1 rfl) ?_
        refine bstep (w_inE (cs1 := dskC true (⟨secs, cache, ops + 1, faults, false⟩ : Dsk)) 0 3 [slE true secs, slE true cache, i6 (ops + 1)] faults [b1 false] faults.length 3 rfl) ?_
        repeat' ((conv => whnf); (first | (apply cx61; refine kl (tx61 (d := (⟨secs, cache, ops + 1, faults, false⟩ : Dsk)) (f := (fltD ⟨secs, cache, ops, faults, false⟩).getD ⟨0, 0, 0⟩)) ?_) | refine k0 ?_ | refine jA fun _ => ?_ | refine jB fun _ => ?_ | refine kC (fun _ => ?_) fun _ => ?_ | (apply cx60; refine kl tx60 ?_) | (apply cx61; refine kl tx61 ?_) | refine jst ?_ | exact ⟨rfl, rfl⟩ | exact jV | fail))
        obtain ⟨f, hf⟩ := Option.isSome_iff_exists.1 ‹_ = true›
        rw [flD_f (by intro h; rcases h with h | h; cases h; exact hge h) hf]
        exact ⟨rfl, by rw [hf]; rfl⟩
      · have hf : fltD ⟨secs, cache, ops, faults, false⟩ = none := by
          cases h : fltD ⟨secs, cache, ops, faults, false⟩ with
          | none => rfl
          | some f => have := ‹_ = false›; rw [h] at this; cases this
        rw [flD_n (by intro h; rcases h with h | h; cases h; exact hge h) hf]
        conv => whnf
        refine k0 ?_
        repeat' ((conv => whnf); (first | refine k0 ?_ | refine jA fun _ => ?_ | refine jB fun _ => ?_ | refine kC (fun _ => ?_) fun _ => ?_ | (apply cx60; refine kl tx60 ?_) | (apply cx61; refine kl tx61 ?_) | refine jst ?_ | exact ⟨rfl, rfl⟩ | exact jV | fail))
        conv => whnf
        refine loopk (ι := Nat) (fun i => i ≤ cache.length) (fun i => cache.length - i) (0) [0] (fun i => [(5, .v false [i6 i])]) [none, some fun i => (true, dlW (cache.take i) ++ cs true (cache.drop i)), some fun i => nE (stl secs (cache.take i)), none] ?_
        refine ⟨by omega, ?_, fun i hi => ?_⟩
        · exact w_autoY [0] [1] (by (conv => whnf); exact And.intro (by kernel_rfl) (And.intro (by kernel_rfl) (by repeat' (first | (with_reducible exact rfl) | ((conv => whnf); first | exact trivial | exact dlW_beg | exact rfl | exact tvi (by first | omega | (dsimp only; omega) | (simp; done)) | exact tvr (by first | omega | (dsimp only; omega) | (simp; done) | (simp; omega)) | exact ⟨rfl, clo_i, by first | rfl | rw [List.take_length] | assumption⟩ | refine And.intro ?_ ?_)))))
        · repeat' ((conv => whnf); (first | refine k0 ?_ | (apply cx60; refine kl tx60 ?_) | (apply cx61; refine kl tx61 ?_) | refine jst ?_ | exact ⟨rfl, rfl⟩ | exact jV | fail))
          conv => whnf
          refine ⟨fun hlt => ?_, fun hge2 => ?_⟩
          · have hi2 : i < cache.length := by omega
            have hn' := hn _ (List.getElem_mem hi2)
            have hc' := cnt_ge (c := fun w : Wri => w.b.length) hi2
            repeat' ((conv => whnf); (first | refine jA fun _ => ?_ | refine jB fun _ => ?_ | refine kC (fun _ => ?_) fun _ => ?_ | (apply cx60; refine kl tx60 ?_) | (apply cx61; refine kl tx61 ?_) | refine jst ?_ | exact ⟨rfl, rfl⟩ | exact jV | fail))
            conv => whnf
            refine bstep (w_outE 1 (dlW (cache.take i) ++ [i6 cache[i].n]) cache[i].b (cs true (cache.drop (i + 1))) 1 (h1 := dlW_out hi2)) ?_
            repeat' ((conv => whnf); (first | refine ko (ptSec (i := (cache[i].n).toNat) (by rw [stl_len]; omega)) ?_ | refine ko (cutW1 (p := i * 2) (by rw [dlW_len, List.length_take]; omega)) ?_ | refine ko (cutW2 (p := i * 2) (by rw [dlW_len, List.length_take]; omega)) ?_ | refine k0 ?_ | refine jA fun _ => ?_ | refine jB fun _ => ?_ | refine kC (fun _ => ?_) fun _ => ?_ | (apply cx60; refine kl tx60 ?_) | (apply cx61; refine kl tx61 ?_) | refine jst ?_ | exact ⟨rfl, rfl⟩ | exact jV | fail))
            refine ⟨⟨i + 1, by omega⟩, by simp only; omega, ((w_dead 1 (dlW (cache.take i) ++ [i6 cache[i].n]) (cs true (cache.drop (i + 1)))).trans (w_inE 2 4 _ cache[i].b _ cache[i].b.length 1 (csSec (xs := stl secs (cache.take i)) (i := cache[i].n.toNat) (by rw [stl_len]; omega)) (hi := rfl) (h1 := rfl))).trans ?_⟩
            exact w_autoY [0] [1] (by (conv => whnf); exact And.intro (by kernel_rfl) (And.intro (by kernel_rfl) (by repeat' (first | (with_reducible exact rfl) | ((conv => whnf); first | exact trivial | exact dlW_end hi2 | exact (by rw [stl_take hi2]; exact ⟨rfl, cs_clo _, rfl⟩) | exact rfl | exact tvi (by first | omega | (dsimp only; omega) | (simp; done)) | exact tvr (by first | omega | (dsimp only; omega) | (simp; done) | (simp; omega)) | exact ⟨rfl, clo_i, by first | rfl | rw [List.take_length] | assumption⟩ | refine And.intro ?_ ?_)))))
          · obtain rfl : i = cache.length := by omega
            repeat' ((conv => whnf); (first | ((with_reducible apply bfin); exact (w_inE 0 4 [.ref 2 0 secs.length 1] ([] : List Wri) [i6 (ops + 1), .ref 3 0 faults.length 3, b1 false] 0 2 rfl).trans ((w_inE 0 2 [] (stl secs (cache.take cache.length)) [slE true ([] : List Wri), i6 (ops + 1), .ref 3 0 faults.length 3, b1 false] secs.length 1 rfl (hk := stl_len)).trans (w_inE 0 3 [slE true (stl secs (cache.take cache.length)), slE true ([] : List Wri), i6 (ops + 1)] faults [b1 false] faults.length 3 rfl))) | refine k0 ?_ | refine jA fun _ => ?_ | refine jB fun _ => ?_ | refine kC (fun _ => ?_) fun _ => ?_ | (apply cx60; refine kl tx60 ?_) | (apply cx61; refine kl tx61 ?_) | refine jst ?_ | exact ⟨rfl, rfl⟩ | exact jV | fail))
            exact ⟨rfl, by rw [List.take_length]; rfl⟩
  · rw [flD_9 (.inl rfl)]
    repeat' ((conv => whnf); (first | refine k0 ?_ | refine jA fun _ => ?_ | refine jB fun _ => ?_ | refine kC (fun _ => ?_) fun _ => ?_ | (apply cx60; refine kl tx60 ?_) | (apply cx61; refine kl tx61 ?_) | refine jst ?_ | exact ⟨rfl, rfl⟩ | exact jV | fail))

theorem cx47 {P : Program} {X : FuncId → List Arg → List (Bool × List Cell) → List (Option (List Cell)) → Prop} {a : List Arg} {Q : List (Bool × List Cell) → List (Option (List Cell)) → Prop} (h : ∃ b vals outs, a = b ∧ D P X (.call 47 b vals outs) ∧ Q vals outs) : CallS P X 47 a Q := ⟨h⟩

end Go.Proofs.Ytmphoefccibibaa
