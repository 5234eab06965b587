/- Functions of the program, each with what it gives back. -/
import Derived.Test.YtkggnekdjdnhiaaGreatKe
import Derived.Test.YtkggnekdjdnhiaaGreatChecked
import Derived.IntWalk
import Derived.Test.YtkggnekdjdnhiaaGreatFt
namespace Go.Proofs.YtkggnekdjdnhiaaGreat
open Go Go.RowKit Go.IntWalk
open Enc (sz cs)
attribute [local irreducible] IntKind.wrap

attribute [local irreducible] gU gT gS gP gM ptP ptM ptS crcN rdS bdN gN pgA ndA wlk pg0 pgS frL led txOk
theorem vEl {α : Type} [Enc α] {xs ys : List α} {n s : Nat} (h : xs = ys) (hn : n = ys.length) (hs : sz α = s := by rfl) : [(false, [Cell.sl true n s (cs true xs)])] = [vE ys] := by subst h hn hs; rfl

theorem tx89 {l : List Int} (hp : 0 < l.length := by first | assumption | omega | (simp; omega)) (hl : l.length ≤ 100000000 := by first | assumption | omega | (simp; omega)) : T 89 [aO l] [] [some (cs true (l.mergeSort fun x y => decide (x ≤ y)))] := .ext (by first | exact ⟨rfl, l, hp, hl, rfl, rfl, rfl⟩ | exact .inl ⟨rfl, l, hp, hl, rfl, rfl, rfl⟩)
theorem cx89 {P : Program} {X : FuncId → List Arg → List (Bool × List Cell) → List (Option (List Cell)) → Prop} {a : List Arg} {Q : List (Bool × List Cell) → List (Option (List Cell)) → Prop} (h : ∃ b vals outs, a = b ∧ D P X (.call 89 b vals outs) ∧ Q vals outs) : CallS P X 89 a Q := ⟨h⟩

set_option maxRecDepth 100000 in
theorem tx130 {l : List Int} {n : Int} (hs : SL l := by first | assumption | omega | (simp; done) | (simp; omega)) (hl : l.length ≤ 5000000 := by first | assumption | omega | (simp; done) | (simp; omega)) : T 130 [aO l, aI n] [vE (insS l n)] [none, none] := by
  refine w_call md [] Tryz.func130 rfl ?_
  cases hn : hasI l n
  · have hH : T 41 [aE l, aI n] [vB false] [none, none] := by rw [← hn]; exact tx41
    have hln : (l ++ [n]).length = l.length + 1 := by simp
    repeat' ((conv => whnf); (first | (apply cx41; refine kl (hH) ?_) | refine Exists.intro _ (Exists.intro _ (And.intro (srcO (α := Int) rfl rfl) (And.intro ⟨Nat.le_refl _, bgb (by omega), bg (by omega)⟩ (Exists.intro _ (And.intro ape (Exists.intro _ (And.intro (Nat.zero_add _) ?_))))))) | refine jap (apI ?_) | refine k0 ?_ | refine jA fun _ => ?_ | refine jB fun _ => ?_ | refine kC (fun _ => ?_) fun _ => ?_ | (apply cx41; refine kl tx41 ?_) | refine jst ?_ | exact ⟨rfl, rfl⟩ | exact jV | fail))
    conv => whnf
    refine loopk (ι := Nat × List Int) (fun i => i.1 ≤ l.length ∧ (∃ y, i.2 = l.take i.1 ++ [y] ++ l.drop i.1) ∧ ∀ j (h : j < l.length), i.1 ≤ j → n < l[j]) (fun i => i.1) ((l.length, l ++ [n])) [1] (fun i => [(5, .v false [.ref 2 0 i.2.length 1]), (6, .v false [i6 i.1])]) [none, none, some fun i => nE i.2] ?_
    refine ⟨⟨by omega, ⟨n, by simp⟩, by intros; omega⟩, ?_, fun ⟨k, o⟩ hi => ?_⟩
    · exact jw []
    · dsimp only at hi ⊢
      obtain ⟨h1, ⟨y, h2⟩, h3⟩ := hi
      have hlen : o.length = l.length + 1 := by rw [h2]; simp; omega
      have hlen2 : (k, o).2.length = l.length + 1 := hlen
      have hk1 : k - 1 < o.length := by omega
      repeat' ((conv => whnf); (first | refine kb ⟨by omega, by omega⟩ (show 0 + (((k : Nat) : Int) - 1).toNat * 1 = (k - 1) * 1 by omega) ?_ | refine ko (ct0 (i := k - 1) hk1) ?_ | ((with_reducible apply bfin); exact w_frz 0 l) | refine k0 ?_ | refine jA fun _ => ?_ | refine jB fun _ => ?_ | refine kC (fun _ => ?_) fun _ => ?_ | (apply cx41; refine kl tx41 ?_) | refine jst ?_ | exact ⟨rfl, rfl⟩ | exact jV | fail))
      · have hv : o[k - 1] = l[k - 1] := by subst h2; exact shg (by omega) h1 hk1
        refine ⟨⟨(k - 1, o.set k o[k - 1]), by dsimp only; omega, ⟨l[k - 1], by dsimp only; rw [hv]; exact (congrArg (fun o => List.set o k l[k - 1]) h2).trans (shf (by omega) h1)⟩, fun j hj hjk => ?_⟩, by simp only; omega, ?_⟩
        · by_cases e : j = k - 1
          · subst e; omega
          · exact h3 j hj (by dsimp only at hjk; omega)
        · exact jw []
      · have hv : o[k - 1] = l[k - 1] := by subst h2; exact shg (by omega) h1 hk1
        have e := ins_at (k := k) hs h1 h3 (.inr ⟨by omega, by omega⟩) hn
        exact ⟨vEl (by rw [e, h2, shs h1]) (by rw [e, ← shs h1, ← h2]; simp), rfl⟩
      · have e := ins_at (k := k) hs h1 h3 (.inl (by omega)) hn
        exact ⟨vEl (by rw [e, h2, shs h1]) (by rw [e, ← shs h1, ← h2]; simp), rfl⟩
  · have hH : T 41 [aE l, aI n] [vB true] [none, none] := by rw [← hn]; exact tx41
    repeat' ((conv => whnf); (first | (apply cx41; refine kl (hH) ?_) | refine k0 ?_ | refine jA fun _ => ?_ | refine jB fun _ => ?_ | refine kC (fun _ => ?_) fun _ => ?_ | (apply cx41; refine kl tx41 ?_) | refine jst ?_ | exact ⟨rfl, rfl⟩ | exact jV | fail))
    exact ⟨by unfold insS; rw [if_pos hn], rfl⟩

theorem cx130 {P : Program} {X : FuncId → List Arg → List (Bool × List Cell) → List (Option (List Cell)) → Prop} {a : List Arg} {Q : List (Bool × List Cell) → List (Option (List Cell)) → Prop} (h : ∃ b vals outs, a = b ∧ D P X (.call 130 b vals outs) ∧ Q vals outs) : CallS P X 130 a Q := ⟨h⟩

theorem dx87 {P : Program} {X : FuncId → List Arg → List (Bool × List Cell) → List (Option (List Cell)) → Prop} {a : List Arg} {Q : List (Bool × List Cell) → List (Option (List Cell)) → Prop} (h : ∃ b vals outs, a = b ∧ D P X (.call 87 b vals outs) ∧ Q vals outs) : CallS P X 87 a Q := ⟨h⟩

set_option maxHeartbeats 2000000 in
set_option maxRecDepth 100000 in
theorem tx87 {t : Txn} {f : Nat} {n : Int} {l : List Int} (ht : zT t ≤ 2000000 := by first | assumption | omega | (simp; done) | (simp; omega)) (h1 : lft t l ≤ f := by first | assumption | omega | (simp; done) | (simp; omega)) (h2 : l.length + lft t l ≤ 2000000 := by first | assumption | omega | (simp; done) | (simp; omega)) (hs : SL l := by first | assumption | omega | (simp; done) | (simp; omega)) : T 87 [.val true (txnC false t), aI n, aO l] [vE (wlk t f n l)] [none, none, none] := by
  induction f generalizing n l
  · have hn : n = 0 ∨ hasI l n = true ∨ (ndA t n).2 = false := by
      cases e1 : (ndA t n).2 <;> cases e2 : hasI l n <;> simp
      have := lft_pos e1 e2; omega
    rw [wlk_no hn]
    rcases hn with hn | hn | hn
    · refine w_call md [] Tryz.func87 rfl ?_
      repeat' ((conv => whnf); (first | refine k0 ?_ | refine jA fun _ => ?_ | refine jB fun _ => ?_ | refine kC (fun _ => ?_) fun _ => ?_ | (apply cx41; refine kl tx41 ?_) | (apply cx95; refine kl tx95 ?_) | (apply cx130; refine kl tx130 ?_) | refine jst ?_ | exact ⟨rfl, rfl⟩ | exact jV | fail))
    · refine w_call md [] Tryz.func87 rfl ?_
      repeat' ((conv => whnf); (first | refine k0 ?_ | refine jA fun _ => ?_ | refine jB fun _ => ?_ | refine kC (fun _ => ?_) fun _ => ?_ | (apply cx41; refine kl tx41 ?_) | (apply cx95; refine kl tx95 ?_) | (apply cx130; refine kl tx130 ?_) | refine jst ?_ | exact ⟨rfl, rfl⟩ | exact jV | fail))
    · refine w_call md [] Tryz.func87 rfl ?_
      repeat' ((conv => whnf); (first | refine k0 ?_ | refine jA fun _ => ?_ | refine jB fun _ => ?_ | refine kC (fun _ => ?_) fun _ => ?_ | (apply cx41; refine kl tx41 ?_) | (apply cx95; refine kl tx95 ?_) | (apply cx130; refine kl tx130 ?_) | refine jst ?_ | exact ⟨rfl, rfl⟩ | exact jV | fail))
  · rename_i f ih
    by_cases hn : n = 0 ∨ hasI l n = true ∨ (ndA t n).2 = false
    · rw [wlk_no hn]
      rcases hn with hn | hn | hn
      · refine w_call md [] Tryz.func87 rfl ?_
        repeat' ((conv => whnf); (first | refine k0 ?_ | refine jA fun _ => ?_ | refine jB fun _ => ?_ | refine kC (fun _ => ?_) fun _ => ?_ | (apply cx41; refine kl tx41 ?_) | (apply cx95; refine kl tx95 ?_) | (apply cx130; refine kl tx130 ?_) | refine jst ?_ | exact ⟨rfl, rfl⟩ | exact jV | fail))
      · refine w_call md [] Tryz.func87 rfl ?_
        repeat' ((conv => whnf); (first | refine k0 ?_ | refine jA fun _ => ?_ | refine jB fun _ => ?_ | refine kC (fun _ => ?_) fun _ => ?_ | (apply cx41; refine kl tx41 ?_) | (apply cx95; refine kl tx95 ?_) | (apply cx130; refine kl tx130 ?_) | refine jst ?_ | exact ⟨rfl, rfl⟩ | exact jV | fail))
      · refine w_call md [] Tryz.func87 rfl ?_
        repeat' ((conv => whnf); (first | refine k0 ?_ | refine jA fun _ => ?_ | refine jB fun _ => ?_ | refine kC (fun _ => ?_) fun _ => ?_ | (apply cx41; refine kl tx41 ?_) | (apply cx95; refine kl tx95 ?_) | (apply cx130; refine kl tx130 ?_) | refine jst ?_ | exact ⟨rfl, rfl⟩ | exact jV | fail))
    · have e0 : n ≠ 0 := fun e => hn (.inl e)
      have e2 : hasI l n = false := by cases e : hasI l n with | false => rfl | true => exact absurd (.inr (.inl e)) hn
      have e1 : (ndA t n).2 = true := by cases e : (ndA t n).2 with | true => rfl | false => exact absurd (.inr (.inr e)) hn
      rw [wlk_go e0 e2 e1]
      have hL := lft_ins e1 e2
      have hI := insS_len (l := l) (n := n)
      have hx := cN_le (ndA t n).1
      have hxl := ndA_len t n
      refine w_call md [] Tryz.func87 rfl ?_
      repeat' ((conv => whnf); (first | (apply cx130; refine kl (tx130 (l := l) (n := n)) ?_) | refine k0 ?_ | refine jA fun _ => ?_ | refine jB fun _ => ?_ | refine kC (fun _ => ?_) fun _ => ?_ | (apply cx41; refine kl tx41 ?_) | (apply cx95; refine kl tx95 ?_) | (apply cx130; refine kl tx130 ?_) | refine jst ?_ | exact ⟨rfl, rfl⟩ | exact jV | fail))
      conv => whnf
      refine loopk (ι := Nat × List Int) (fun i => i.1 ≤ (ndA t n).1.kids.length ∧ i.2 = ((ndA t n).1.kids.take i.1).foldl (fun l k => wlk t f k l) (insS l n)) (fun i => (ndA t n).1.kids.length - i.1) ((0, insS l n)) [3] (fun i => [(7, .v false [.ptr 4 0]), (2, .v false [.ref 8 0 i.2.length 1]), (9, .v false [i6 i.1])]) [none, none, none, none, some fun _ => some (true, [b1 (ndA t n).1.leaf, .ref 5 0 (ndA t n).1.keys.length 1, .ref 6 0 (ndA t n).1.vals.length 1, .ref 7 0 (ndA t n).1.kids.length 1]), some fun _ => nE (ndA t n).1.keys, some fun _ => nE (ndA t n).1.vals, some fun _ => nE (ndA t n).1.kids, some fun i => nE i.2] ?_
      refine ⟨⟨by omega, rfl⟩, ?_, fun ⟨i, l'⟩ hi => ?_⟩
      · exact jw [4]
      · dsimp only at hi ⊢
        obtain ⟨hi, hl'⟩ := hi
        have w := wlk_fold t f ((ndA t n).1.kids.take i) (insS l n) (by omega)
        rw [← hl'] at w
        have w1 := lft_sub (t := t) w.sub
        have w2 := w.len
        have w3 := w.sl (insS_sl hs)
        repeat' ((conv => whnf); (first | refine k0 ?_ | (apply cx41; refine kl tx41 ?_) | (apply cx95; refine kl tx95 ?_) | (apply cx130; refine kl tx130 ?_) | refine jst ?_ | exact ⟨rfl, rfl⟩ | exact jV | fail))
        conv => whnf
        refine ⟨fun hlt => ?_, fun hge => ?_⟩
        · have hi3 : i < (ndA t n).1.kids.length := by omega
          repeat' ((conv => whnf); (first | (apply dx87; refine kl (ih (l := l') (n := (ndA t n).1.kids[i]) (by omega) (by omega) w3) ?_) | refine k0 ?_ | refine jA fun _ => ?_ | refine jB fun _ => ?_ | refine kC (fun _ => ?_) fun _ => ?_ | (apply cx41; refine kl tx41 ?_) | (apply cx95; refine kl tx95 ?_) | (apply cx130; refine kl tx130 ?_) | refine jst ?_ | exact ⟨rfl, rfl⟩ | exact jV | fail))
          refine ⟨⟨(i + 1, wlk t f (ndA t n).1.kids[i] l'), by dsimp only; omega, by dsimp only; rw [take_one hi3, List.foldl_append, ← hl']; rfl⟩, by simp only; omega, ?_⟩
          exact jw [4]
        · rw [List.take_of_length_le (by dsimp only at hge; omega)] at hl'
          rw [← hl']
          repeat' ((conv => whnf); (first | refine k0 ?_ | refine jA fun _ => ?_ | refine jB fun _ => ?_ | refine kC (fun _ => ?_) fun _ => ?_ | (apply cx41; refine kl tx41 ?_) | (apply cx95; refine kl tx95 ?_) | (apply cx130; refine kl tx130 ?_) | refine jst ?_ | exact ⟨rfl, rfl⟩ | exact jV | fail))

theorem cx87 {P : Program} {X : FuncId → List Arg → List (Bool × List Cell) → List (Option (List Cell)) → Prop} {a : List Arg} {Q : List (Bool × List Cell) → List (Option (List Cell)) → Prop} (h : ∃ b vals outs, a = b ∧ D P X (.call 87 b vals outs) ∧ Q vals outs) : CallS P X 87 a Q := ⟨h⟩

set_option maxRecDepth 100000 in
theorem tx40 {t : Txn} {r : Int} (ht : zT t ≤ 2000000 := by first | assumption | omega | (simp; done) | (simp; omega)) : T 40 [.val true (txnC false t), aI r] [vE (pgS t false r)] [none, none] := by
  refine w_call md [] Tryz.func40 rfl ?_
  have h1 := lft_le t []
  have hw : T 87 [.val true (txnC false t), aI r, aO ([] : List Int)] [vE (pgS t false r)] [none, none, none] := by
    have := tx87 (t := t) (f := zT t) (n := r) (l := []) (h2 := by simp; omega) (hs := .nil)
    rwa [wlk_all h1, pg0_pgS] at this
  repeat' ((conv => whnf); (first | (apply cx87; refine kl (hw) ?_) | refine And.intro ⟨rfl, rfl, rfl⟩ ?_ | refine k0 ?_ | refine jA fun _ => ?_ | refine jB fun _ => ?_ | refine kC (fun _ => ?_) fun _ => ?_ | (apply cx87; refine kl tx87 ?_) | refine jst ?_ | exact ⟨rfl, rfl⟩ | exact jV | fail))

theorem cx40 {P : Program} {X : FuncId → List Arg → List (Bool × List Cell) → List (Option (List Cell)) → Prop} {a : List Arg} {Q : List (Bool × List Cell) → List (Option (List Cell)) → Prop} (h : ∃ b vals outs, a = b ∧ D P X (.call 40 b vals outs) ∧ Q vals outs) : CallS P X 40 a Q := ⟨h⟩

set_option maxHeartbeats 2000000 in
set_option maxRecDepth 100000 in
theorem tx42 {t : Txn} {r : Int} (ht : zT t ≤ 2000000 := by first | assumption | omega | (simp; done) | (simp; omega)) : T 42 [.val true (txnC false t), aI r] [vE (pgS t true r)] [none, none] := by
  refine w_call md [[1]] Tryz.func42 rfl ?_
  by_cases hb : r = 0 ∨ (ndA t r).2 = false
  · rw [pgS_bad hb]
    rcases hb with hb | hb
    · subst hb
      repeat' ((conv => whnf); (first | refine k0 ?_ | refine jA fun _ => ?_ | refine jB fun _ => ?_ | refine kC (fun _ => ?_) fun _ => ?_ | (apply cx88; refine kl tx88 ?_) | (apply cx44; refine kl tx44 ?_) | refine jst ?_ | exact ⟨rfl, rfl⟩ | exact jV | fail))
    · repeat' ((conv => whnf); (first | refine k0 ?_ | refine jA fun _ => ?_ | refine jB fun _ => ?_ | refine kC (fun _ => ?_) fun _ => ?_ | (apply cx88; refine kl tx88 ?_) | (apply cx44; refine kl tx44 ?_) | refine jst ?_ | exact ⟨rfl, rfl⟩ | exact jV | fail))
  · have h0 : r ≠ 0 := fun e => hb (.inl e)
    have h1 : (ndA t r).2 = true := by cases e : (ndA t r).2 with | true => rfl | false => exact absurd (.inr e) hb
    repeat' ((conv => whnf); (first | refine k0 ?_ | refine jA fun _ => ?_ | refine jB fun _ => ?_ | refine kC (fun _ => ?_) fun _ => ?_ | (apply cx88; refine kl tx88 ?_) | (apply cx44; refine kl tx44 ?_) | refine jst ?_ | exact ⟨rfl, rfl⟩ | exact jV | fail))
    conv => whnf
    refine loopk (ι := Nat × List Int) (fun i => i.1 ≤ i.2.length ∧ Bf t r i.1 i.2) (fun i => zT t + 1 - i.1) ((0, [r])) [2] (fun i => [(7, .v false [.ref 3 0 i.2.length 1]), (8, .v false [i6 i.1])]) [none, none, none, some fun i => nE i.2] ?_
    refine ⟨⟨by simp, .beg h0 h1⟩, ?_, fun ⟨a, l⟩ hi => ?_⟩
    · exact jw []
    · dsimp only at hi ⊢
      obtain ⟨hil, hB⟩ := hi
      have hlen := hB.len
      have hsn : (a, l).2.length = l.length := rfl
      repeat' ((conv => whnf); (first | refine k0 ?_ | (apply cx88; refine kl tx88 ?_) | (apply cx44; refine kl tx44 ?_) | refine jst ?_ | exact ⟨rfl, rfl⟩ | exact jV | fail))
      conv => whnf
      refine ⟨fun hlt => ?_, fun hge => ?_⟩
      · have hi2 : a < l.length := by omega
        have hx := cN_le (ndA t l[a]).1
        have hxl := ndA_len t l[a]
        have hr := hB.from' _ (List.getElem_mem hi2)
        have hok : (ndA t l[a]).2 = true := hr.ok
        repeat' ((conv => whnf); (first | refine k0 ?_ | refine jA fun _ => ?_ | refine jB fun _ => ?_ | refine kC (fun _ => ?_) fun _ => ?_ | (apply cx88; refine kl tx88 ?_) | (apply cx44; refine kl tx44 ?_) | refine jst ?_ | exact ⟨rfl, rfl⟩ | exact jV | fail))
        conv => whnf
        refine loopk (ι := Nat × List Int) (fun i => i.1 ≤ (ndA t l[a]).1.kids.length ∧ Bf t r a i.2 ∧ l.length ≤ i.2.length ∧ i.2[a]? = l[a]? ∧ ∀ j (h : j < (ndA t l[a]).1.kids.length), j < i.1 → (ndA t (ndA t l[a]).1.kids[j]).2 = true → (ndA t l[a]).1.kids[j] ∈ i.2) (fun i => (ndA t l[a]).1.kids.length - i.1) ((0, l)) [2, 8, 46] (fun i => [(45, .v false [.ref 4 0 (ndA t l[a]).1.kids.length 1]), (7, .v false [.ref 3 0 i.2.length 1]), (47, .v false [i6 i.1])]) [none, none, none, some fun i => nE i.2, some fun _ => nE (ndA t l[a]).1.kids] ?_
        refine ⟨⟨by omega, hB, Nat.le_refl _, rfl, by intros; omega⟩, ?_, fun ⟨c, l'⟩ hc => ?_⟩
        · exact jw []
        · dsimp only at hc ⊢
          obtain ⟨hc, hB', hll, hli, hall⟩ := hc
          have hlen' := hB'.len
          have hsn2 : (c, l').2.length = l'.length := rfl
          refine ⟨fun hlt => ?_, fun hge => ?_⟩
          · have hc2 : c < (ndA t l[a]).1.kids.length := by omega
            repeat' ((conv => whnf); (first | refine jap (apI ?_) | refine k0 ?_ | refine jA fun _ => ?_ | refine jB fun _ => ?_ | refine kC (fun _ => ?_) fun _ => ?_ | (apply cx88; refine kl tx88 ?_) | (apply cx44; refine kl tx44 ?_) | refine jst ?_ | exact ⟨rfl, rfl⟩ | exact jV | fail))
            all_goals first
              | (have hk : (ndA t (ndA t l[a]).1.kids[c]).2 = true := ‹_›
                 have hn : hasI l' (ndA t l[a]).1.kids[c] = false := ‹_›
                 refine ⟨⟨(c + 1, l' ++ [(ndA t l[a]).1.kids[c]]), by dsimp only; omega, hB'.add (by omega) hk hn (.kid hr (List.getElem_mem hc2) hk (.inl rfl)), by simp; omega, by dsimp only; rw [List.getElem?_append_left (by omega)]; exact hli, fun j hj hjc ho => ?_⟩, by simp only; omega, ?_⟩
                 · by_cases e : j = c
                   · subst e; simp
                   · exact List.mem_append_left _ (hall j hj (by dsimp only at hjc; omega) ho)
                 · exact jw [])
              | (refine ⟨⟨(c + 1, l'), by dsimp only; omega, hB', hll, hli, fun j hj hjc ho => ?_⟩, by simp only; omega, ?_⟩
                 · by_cases e : j = c
                   · subst e
                     first
                       | exact hasI_iff.1 ‹hasI _ _ = true›
                       | exact (bct ‹_› ho).elim
                   · exact hall j hj (by dsimp only at hjc; omega) ho
                 · exact jw [])
          · repeat' ((conv => whnf); (first | refine k0 ?_ | refine jA fun _ => ?_ | refine jB fun _ => ?_ | refine kC (fun _ => ?_) fun _ => ?_ | (apply cx88; refine kl tx88 ?_) | (apply cx44; refine kl tx44 ?_) | refine jst ?_ | exact ⟨rfl, rfl⟩ | exact jV | fail))
            have e : l'[a]'(by omega) = l[a] := by
              rw [List.getElem?_eq_getElem (by omega), List.getElem?_eq_getElem hi2] at hli
              exact Option.some.inj hli
            refine ⟨⟨(a + 1, l'), by dsimp only; omega, hB'.step (by omega) (by
              rw [e]
              intro k hk ho
              obtain ⟨j, hj, rfl⟩ := List.getElem_of_mem hk
              exact hall j hj (by dsimp only at hge; omega) ho)⟩, by simp only; omega, ?_⟩
            exact jw []
      · have hpos : 0 < l.length := List.length_pos_of_mem hB.root
        repeat' ((conv => whnf); (first | (apply cx89; refine kl (tx89 (l := l)) ?_) | refine k0 ?_ | refine jA fun _ => ?_ | refine jB fun _ => ?_ | refine kC (fun _ => ?_) fun _ => ?_ | (apply cx88; refine kl tx88 ?_) | (apply cx44; refine kl tx44 ?_) | refine jst ?_ | exact ⟨rfl, rfl⟩ | exact jV | fail))
        exact ⟨vEl (by rw [hB.sort (by omega) h0, pg0_pgS]) (by rw [← pg0_pgS, ← hB.sort (by omega) h0]; simp), rfl⟩

theorem cx42 {P : Program} {X : FuncId → List Arg → List (Bool × List Cell) → List (Option (List Cell)) → Prop} {a : List Arg} {Q : List (Bool × List Cell) → List (Option (List Cell)) → Prop} (h : ∃ b vals outs, a = b ∧ D P X (.call 42 b vals outs) ∧ Q vals outs) : CallS P X 42 a Q := ⟨h⟩

set_option maxRecDepth 100000 in
theorem tx43 {t : Txn} : T 43 [.val true (txnC false t)] [(true, [slE false t.d.secs, slE false t.d.cache, i6 t.d.ops, slE false t.d.faults, b1 t.d.down, i6 t.m.gen, i6 t.m.root, i6 t.root, slE true ([] : List Fre)])] [none] := by
  refine w_call md [[5]] Tryz.func43 rfl ?_
  repeat' ((conv => whnf); (first | refine k0 ?_ | refine jA fun _ => ?_ | refine jB fun _ => ?_ | refine kC (fun _ => ?_) fun _ => ?_ | refine jst ?_ | exact ⟨rfl, rfl⟩ | exact jV | fail))

theorem cx43 {P : Program} {X : FuncId → List Arg → List (Bool × List Cell) → List (Option (List Cell)) → Prop} {a : List Arg} {Q : List (Bool × List Cell) → List (Option (List Cell)) → Prop} (h : ∃ b vals outs, a = b ∧ D P X (.call 43 b vals outs) ∧ Q vals outs) : CallS P X 43 a Q := ⟨h⟩

set_option maxRecDepth 100000 in
theorem tx17 {t : Txn} (ht : zT t ≤ 2000000 := by first | assumption | omega | (simp; done) | (simp; omega)) : T 17 [.val true (txnC false t)] [vE (frL t)] [none] := by
  refine w_call md [] Tryz.func17 rfl ?_
  have hz := zT_onD t
  have hzd := zT_d (t := t)
  have hP : T 42 [.val true (txnC false (onD t)), aI t.m.root] [vE (pgS (onD t) false t.m.root)] [none, none] := by rw [← pgS_onD]; exact tx42 (t := onD t)
  have hpl := pgS_len (onD t) false t.m.root
  have hsl : t.d.secs.length ≤ 2000000 := by unfold zD zBS at hzd; omega
  repeat' ((conv => whnf); (first | (apply cx42; refine kl (hP) ?_) | refine k0 ?_ | refine jA fun _ => ?_ | refine jB fun _ => ?_ | refine kC (fun _ => ?_) fun _ => ?_ | (apply cx43; refine kl tx43 ?_) | (apply cx42; refine kl tx42 ?_) | (apply cx44; refine kl tx44 ?_) | (apply cx45; refine kl tx45 ?_) | refine jst ?_ | exact ⟨rfl, rfl⟩ | exact jV | fail))
  conv => whnf
  refine loopk (ι := Nat × List Int) (fun i => 2 ≤ i.1 ∧ i.1 ≤ max 2 t.d.secs.length ∧ i.2 = frT t i.1) (fun i => t.d.secs.length - i.1) ((2, [])) [1] (fun i => [(3, .v false [.ref 2 0 (pgS (onD t) false t.m.root).length 1]), (4, .v false [.ref 3 0 i.2.length 1]), (5, .v false [i6 i.1])]) [none, none, some fun _ => nE (pgS (onD t) false t.m.root), some fun i => nE i.2] ?_
  refine ⟨⟨by omega, by simp only; omega, frT_two.symm⟩, ?_, fun ⟨i, l⟩ hi => ?_⟩
  · exact (w_virt 4 1 rfl rfl).trans (jw [])
  · dsimp only at hi ⊢
    obtain ⟨hi, hi2, hl⟩ := hi
    have hll := frT_len t i
    rw [← hl] at hll
    repeat' ((conv => whnf); (first | refine k0 ?_ | (apply cx43; refine kl tx43 ?_) | (apply cx42; refine kl tx42 ?_) | (apply cx44; refine kl tx44 ?_) | (apply cx45; refine kl tx45 ?_) | refine jst ?_ | exact ⟨rfl, rfl⟩ | exact jV | fail))
    conv => whnf
    refine ⟨fun hlt => ?_, fun hge => ?_⟩
    · have hi3 : i < t.d.secs.length := by omega
      repeat' ((conv => whnf); (first | refine jap (apI ?_) | refine k0 ?_ | refine jA fun _ => ?_ | refine jB fun _ => ?_ | refine kC (fun _ => ?_) fun _ => ?_ | (apply cx43; refine kl tx43 ?_) | (apply cx42; refine kl tx42 ?_) | (apply cx44; refine kl tx44 ?_) | (apply cx45; refine kl tx45 ?_) | refine jst ?_ | exact ⟨rfl, rfl⟩ | exact jV | fail))
      all_goals first
        | (refine ⟨⟨(i + 1, l ++ [(i : Int)]), by dsimp only; omega, by dsimp only; omega, by dsimp only; rw [hl]; exact (frT_yes hi ‹hasI _ _ = false› (nwI_lt.1 ‹nwI _ _ < 0›)).symm⟩, by simp only; omega, ?_⟩
           exact jw [])
        | (refine ⟨⟨(i + 1, l), by dsimp only; omega, by dsimp only; omega, by dsimp only; rw [hl]; exact (frT_no (by first | exact .inr (.inl ‹hasI _ _ = true›) | exact .inr (.inr fun e => ‹¬ nwI _ _ < 0› (nwI_lt.2 e)))).symm⟩, by simp only; omega, ?_⟩
           exact jw [])
    · rw [← frL_end (t := t) (i := i) (by omega) hi2, ← hl]
      repeat' ((conv => whnf); (first | refine k0 ?_ | refine jA fun _ => ?_ | refine jB fun _ => ?_ | refine kC (fun _ => ?_) fun _ => ?_ | (apply cx43; refine kl tx43 ?_) | (apply cx42; refine kl tx42 ?_) | (apply cx44; refine kl tx44 ?_) | (apply cx45; refine kl tx45 ?_) | refine jst ?_ | exact ⟨rfl, rfl⟩ | exact jV | fail))

theorem cx17 {P : Program} {X : FuncId → List Arg → List (Bool × List Cell) → List (Option (List Cell)) → Prop} {a : List Arg} {Q : List (Bool × List Cell) → List (Option (List Cell)) → Prop} (h : ∃ b vals outs, a = b ∧ D P X (.call 17 b vals outs) ∧ Q vals outs) : CallS P X 17 a Q := ⟨h⟩

set_option maxRecDepth 100000 in
theorem tx16 {t : Txn} (ht : zT t ≤ 2000000 := by first | assumption | omega | (simp; done) | (simp; omega)) : T 16 [.val true (txnC false t)] [vE (frL t)] [none] := by
  refine w_call md [] Tryz.func16 rfl ?_
  have hz : zT ⟨t.d, ⟨0, 0⟩, 0, []⟩ ≤ 2000000 := Nat.le_trans (zT_onD t) ht
  have hz2 := zT_onD t
  have hzd := zT_d (t := t)
  have hzn := zT_new (t := t)
  have hP : T 40 [.val true (txnC false ⟨t.d, ⟨0, 0⟩, 0, []⟩), aI t.m.root] [vE (pgS (onD t) false t.m.root)] [none, none] := by
    rw [← pgS_dn (t := ⟨t.d, ⟨0, 0⟩, 0, []⟩) (t' := onD t) rfl rfl]; exact tx40
  have hpl := pgS_len (onD t) false t.m.root
  have hsl : t.d.secs.length ≤ 2000000 := by unfold zD zBS at hzd; omega
  repeat' ((conv => whnf); (first | (apply cx40; refine kl (hP) ?_) | refine k0 ?_ | refine jA fun _ => ?_ | refine jB fun _ => ?_ | refine kC (fun _ => ?_) fun _ => ?_ | (apply cx40; refine kl tx40 ?_) | (apply cx41; refine kl tx41 ?_) | refine jst ?_ | exact ⟨rfl, rfl⟩ | exact jV | fail))
  conv => whnf
  refine loopk (ι := Nat × List Int) (fun i => 2 ≤ i.1 ∧ i.1 ≤ max 2 t.d.secs.length ∧ i.2 = frT t i.1) (fun i => t.d.secs.length - i.1) ((2, [])) [1] (fun i => [(3, .v false [.ref 2 0 (pgS (onD t) false t.m.root).length 1]), (4, .v false [.ref 3 0 i.2.length 1]), (5, .v false [i6 i.1])]) [none, none, some fun _ => nE (pgS (onD t) false t.m.root), some fun i => nE i.2] ?_
  refine ⟨⟨by omega, by simp only; omega, frT_two.symm⟩, ?_, fun ⟨a, l⟩ hi => ?_⟩
  · exact jw []
  · dsimp only at hi ⊢
    obtain ⟨hi, hi2, hl⟩ := hi
    have hll := frT_len t a
    rw [← hl] at hll
    have hsn : (a, l).2.length = l.length := rfl
    repeat' ((conv => whnf); (first | refine k0 ?_ | (apply cx40; refine kl tx40 ?_) | (apply cx41; refine kl tx41 ?_) | refine jst ?_ | exact ⟨rfl, rfl⟩ | exact jV | fail))
    conv => whnf
    refine ⟨fun hlt => ?_, fun hge => ?_⟩
    · have hi3 : a < t.d.secs.length := by omega
      cases hh : hasI (pgS (onD t) false t.m.root) a
      · have hH : T 41 [aE (pgS (onD t) false t.m.root), aI a] [vB false] [none, none] := by
          have := tx41 (l := pgS (onD t) false t.m.root) (n := a) (hl := by omega)
          rwa [hh] at this
        repeat' ((conv => whnf); (first | (apply cx41; refine kl (hH) ?_) | refine k0 ?_ | refine jA fun _ => ?_ | refine jB fun _ => ?_ | refine kC (fun _ => ?_) fun _ => ?_ | (apply cx40; refine kl tx40 ?_) | (apply cx41; refine kl tx41 ?_) | refine jst ?_ | exact ⟨rfl, rfl⟩ | exact jV | fail))
        conv => whnf
        refine loopk (ι := Nat × Bool) (fun i => i.1 ≤ t.new.length ∧ (i.2 = true ↔ hasI (pgS (onD t) false t.m.root) a = true ∨ ∃ j, ∃ h : j < t.new.length, j < i.1 ∧ t.new[j].n = a)) (fun i => t.new.length - i.1) ((0, false)) [1, 3, 4, 5] (fun i => [(6, .v false [b1 i.2]), (7, .v false [i6 i.1])]) [none, none, none, none] ?_
        refine ⟨⟨by omega, by simp [hh]⟩, ?_, fun ⟨c, tk⟩ hc => ?_⟩
        · exact jw []
        · dsimp only at hc ⊢
          obtain ⟨hc, htk⟩ := hc
          repeat' ((conv => whnf); (first | refine k0 ?_ | (apply cx40; refine kl tx40 ?_) | (apply cx41; refine kl tx41 ?_) | refine jst ?_ | exact ⟨rfl, rfl⟩ | exact jV | fail))
          conv => whnf
          refine ⟨fun hlt => ?_, fun hge => ?_⟩
          · have hc2 : c < t.new.length := by omega
            cases tk
            · repeat' ((conv => whnf); (first | refine k0 ?_ | refine jA fun _ => ?_ | refine jB fun _ => ?_ | refine kC (fun _ => ?_) fun _ => ?_ | (apply cx40; refine kl tx40 ?_) | (apply cx41; refine kl tx41 ?_) | refine jst ?_ | exact ⟨rfl, rfl⟩ | exact jV | fail))
              · refine ⟨⟨(c + 1, true), by dsimp only; omega, ⟨fun _ => .inr ⟨c, hc2, Nat.lt_succ_self _, ‹_›⟩, fun _ => rfl⟩⟩, by simp only; omega, ?_⟩
                exact jw []
              · refine ⟨⟨(c + 1, false), by dsimp only; omega, ⟨fun h => (by cases h), fun h => htk.2 (h.imp id fun ⟨j, h, h1, h2⟩ => ⟨j, h, by
                  by_cases e : j = c
                  · subst e; exact absurd h2 ‹_›
                  · dsimp only at h1; omega, h2⟩)⟩⟩, by simp only; omega, ?_⟩
                exact jw []
            · repeat' ((conv => whnf); (first | refine k0 ?_ | refine jA fun _ => ?_ | refine jB fun _ => ?_ | refine kC (fun _ => ?_) fun _ => ?_ | (apply cx40; refine kl tx40 ?_) | (apply cx41; refine kl tx41 ?_) | refine jst ?_ | exact ⟨rfl, rfl⟩ | exact jV | fail))
              refine ⟨⟨(c + 1, true), by dsimp only; omega, ⟨fun _ => (htk.1 rfl).imp id fun ⟨j, h, h1, h2⟩ => ⟨j, h, Nat.lt_succ_of_lt h1, h2⟩, fun _ => rfl⟩⟩, by simp only; omega, ?_⟩
              exact jw []
          · have hce : c = t.new.length := by dsimp only at hge; omega
            cases tk
            · repeat' ((conv => whnf); (first | refine jap (apI ?_) | refine k0 ?_ | refine jA fun _ => ?_ | refine jB fun _ => ?_ | refine kC (fun _ => ?_) fun _ => ?_ | (apply cx40; refine kl tx40 ?_) | (apply cx41; refine kl tx41 ?_) | refine jst ?_ | exact ⟨rfl, rfl⟩ | exact jV | fail))
              have h3 : ¬ (hasI (pgS (onD t) false t.m.root) a = true ∨ ∃ j, ∃ h : j < t.new.length, j < c ∧ t.new[j].n = a) := fun q => by have := htk.2 q; cases this
              refine ⟨⟨(a + 1, l ++ [(a : Int)]), by dsimp only; omega, by dsimp only; omega, by dsimp only; rw [hl]; exact (frT_yes hi (by cases e : hasI (pgS (onD t) false t.m.root) a with | false => rfl | true => exact absurd (.inl e) h3) (nwI_iff.2 fun j h e => h3 (.inr ⟨j, h, by omega, e⟩))).symm⟩, by simp only; omega, ?_⟩
              exact jw []
            · repeat' ((conv => whnf); (first | refine k0 ?_ | refine jA fun _ => ?_ | refine jB fun _ => ?_ | refine kC (fun _ => ?_) fun _ => ?_ | (apply cx40; refine kl tx40 ?_) | (apply cx41; refine kl tx41 ?_) | refine jst ?_ | exact ⟨rfl, rfl⟩ | exact jV | fail))
              have h3 := htk.1 rfl
              refine ⟨⟨(a + 1, l), by dsimp only; omega, by dsimp only; omega, by dsimp only; rw [hl]; exact (frT_no (h3.elim (fun q => .inr (.inl q)) fun ⟨j, h, _, e⟩ => .inr (.inr fun q => nwI_iff.1 q j h e))).symm⟩, by simp only; omega, ?_⟩
              exact jw []
      · have hH : T 41 [aE (pgS (onD t) false t.m.root), aI a] [vB true] [none, none] := by
          have := tx41 (l := pgS (onD t) false t.m.root) (n := a) (hl := by omega)
          rwa [hh] at this
        repeat' ((conv => whnf); (first | (apply cx41; refine kl (hH) ?_) | refine k0 ?_ | refine jA fun _ => ?_ | refine jB fun _ => ?_ | refine kC (fun _ => ?_) fun _ => ?_ | (apply cx40; refine kl tx40 ?_) | (apply cx41; refine kl tx41 ?_) | refine jst ?_ | exact ⟨rfl, rfl⟩ | exact jV | fail))
        conv => whnf
        refine loopk (ι := Nat × Bool) (fun i => i.1 ≤ t.new.length ∧ (i.2 = true ↔ hasI (pgS (onD t) false t.m.root) a = true ∨ ∃ j, ∃ h : j < t.new.length, j < i.1 ∧ t.new[j].n = a)) (fun i => t.new.length - i.1) ((0, true)) [1, 3, 4, 5] (fun i => [(6, .v false [b1 i.2]), (7, .v false [i6 i.1])]) [none, none, none, none] ?_
        refine ⟨⟨by omega, by simp [hh]⟩, ?_, fun ⟨c, tk⟩ hc => ?_⟩
        · exact jw []
        · dsimp only at hc ⊢
          obtain ⟨hc, htk⟩ := hc
          repeat' ((conv => whnf); (first | refine k0 ?_ | (apply cx40; refine kl tx40 ?_) | (apply cx41; refine kl tx41 ?_) | refine jst ?_ | exact ⟨rfl, rfl⟩ | exact jV | fail))
          conv => whnf
          refine ⟨fun hlt => ?_, fun hge => ?_⟩
          · have hc2 : c < t.new.length := by omega
            cases tk
            · repeat' ((conv => whnf); (first | refine k0 ?_ | refine jA fun _ => ?_ | refine jB fun _ => ?_ | refine kC (fun _ => ?_) fun _ => ?_ | (apply cx40; refine kl tx40 ?_) | (apply cx41; refine kl tx41 ?_) | refine jst ?_ | exact ⟨rfl, rfl⟩ | exact jV | fail))
              · refine ⟨⟨(c + 1, true), by dsimp only; omega, ⟨fun _ => .inr ⟨c, hc2, Nat.lt_succ_self _, ‹_›⟩, fun _ => rfl⟩⟩, by simp only; omega, ?_⟩
                exact jw []
              · refine ⟨⟨(c + 1, false), by dsimp only; omega, ⟨fun h => (by cases h), fun h => htk.2 (h.imp id fun ⟨j, h, h1, h2⟩ => ⟨j, h, by
                  by_cases e : j = c
                  · subst e; exact absurd h2 ‹_›
                  · dsimp only at h1; omega, h2⟩)⟩⟩, by simp only; omega, ?_⟩
                exact jw []
            · repeat' ((conv => whnf); (first | refine k0 ?_ | refine jA fun _ => ?_ | refine jB fun _ => ?_ | refine kC (fun _ => ?_) fun _ => ?_ | (apply cx40; refine kl tx40 ?_) | (apply cx41; refine kl tx41 ?_) | refine jst ?_ | exact ⟨rfl, rfl⟩ | exact jV | fail))
              refine ⟨⟨(c + 1, true), by dsimp only; omega, ⟨fun _ => (htk.1 rfl).imp id fun ⟨j, h, h1, h2⟩ => ⟨j, h, Nat.lt_succ_of_lt h1, h2⟩, fun _ => rfl⟩⟩, by simp only; omega, ?_⟩
              exact jw []
          · have hce : c = t.new.length := by dsimp only at hge; omega
            cases tk
            · repeat' ((conv => whnf); (first | refine jap (apI ?_) | refine k0 ?_ | refine jA fun _ => ?_ | refine jB fun _ => ?_ | refine kC (fun _ => ?_) fun _ => ?_ | (apply cx40; refine kl tx40 ?_) | (apply cx41; refine kl tx41 ?_) | refine jst ?_ | exact ⟨rfl, rfl⟩ | exact jV | fail))
              have h3 : ¬ (hasI (pgS (onD t) false t.m.root) a = true ∨ ∃ j, ∃ h : j < t.new.length, j < c ∧ t.new[j].n = a) := fun q => by have := htk.2 q; cases this
              refine ⟨⟨(a + 1, l ++ [(a : Int)]), by dsimp only; omega, by dsimp only; omega, by dsimp only; rw [hl]; exact (frT_yes hi (by cases e : hasI (pgS (onD t) false t.m.root) a with | false => rfl | true => exact absurd (.inl e) h3) (nwI_iff.2 fun j h e => h3 (.inr ⟨j, h, by omega, e⟩))).symm⟩, by simp only; omega, ?_⟩
              exact jw []
            · repeat' ((conv => whnf); (first | refine k0 ?_ | refine jA fun _ => ?_ | refine jB fun _ => ?_ | refine kC (fun _ => ?_) fun _ => ?_ | (apply cx40; refine kl tx40 ?_) | (apply cx41; refine kl tx41 ?_) | refine jst ?_ | exact ⟨rfl, rfl⟩ | exact jV | fail))
              have h3 := htk.1 rfl
              refine ⟨⟨(a + 1, l), by dsimp only; omega, by dsimp only; omega, by dsimp only; rw [hl]; exact (frT_no (h3.elim (fun q => .inr (.inl q)) fun ⟨j, h, _, e⟩ => .inr (.inr fun q => nwI_iff.1 q j h e))).symm⟩, by simp only; omega, ?_⟩
              exact jw []
    · rw [← frL_end (t := t) (i := a) (by omega) hi2, ← hl]
      repeat' ((conv => whnf); (first | refine k0 ?_ | refine jA fun _ => ?_ | refine jB fun _ => ?_ | refine kC (fun _ => ?_) fun _ => ?_ | (apply cx40; refine kl tx40 ?_) | (apply cx41; refine kl tx41 ?_) | refine jst ?_ | exact ⟨rfl, rfl⟩ | exact jV | fail))

theorem cx16 {P : Program} {X : FuncId → List Arg → List (Bool × List Cell) → List (Option (List Cell)) → Prop} {a : List Arg} {Q : List (Bool × List Cell) → List (Option (List Cell)) → Prop} (h : ∃ b vals outs, a = b ∧ D P X (.call 16 b vals outs) ∧ Q vals outs) : CallS P X 16 a Q := ⟨h⟩

end Go.Proofs.YtkggnekdjdnhiaaGreat
