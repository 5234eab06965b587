/- Functions of the program, each with what it gives back. -/
import Derived.Test.YtkggnekdjdnhiaaGreatKe
import Derived.Test.YtkggnekdjdnhiaaGreatChecked
import Derived.IntWalk
import Derived.Test.YtkggnekdjdnhiaaGreatFv
namespace Go.Proofs.YtkggnekdjdnhiaaGreat
open Go Go.RowKit Go.IntWalk
open Enc (sz cs)
attribute [local irreducible] IntKind.wrap

attribute [local irreducible] gU gT gS gP gM ptP ptM ptS crcN rdS bdN gN pgA ndA wlk pg0 pgS frL led txOk bestM
theorem frL_dn {t t' : Txn} (h : t.d = t'.d) (h1 : t.m = t'.m) (h2 : t.new = t'.new) : frL t = frL t' := by
  have e : frI t = frI t' := by
    funext n
    unfold frI
    rw [pgS_dn (t := onD t) (t' := onD t') h rfl, h1, h2]
  unfold frL frT
  rw [e, h]

set_option maxHeartbeats 2000000 in
set_option maxRecDepth 100000 in
theorem tx53 {t : Txn} {r : Int} (ht : zT t ≤ 2000000 := by first | assumption | omega | (simp; done) | (simp; omega)) : T 53 [.val true (txnC false t), aI r] [vB (led t true r)] [none, none] := by
  refine w_call md [] Tryz.func53 rfl ?_
  by_cases hr : r = 0
  · subst hr
    rw [led_yes (.inl rfl)]
    repeat' ((conv => whnf); (first | refine k0 ?_ | refine jA fun _ => ?_ | refine jB fun _ => ?_ | refine kC (fun _ => ?_) fun _ => ?_ | (apply cx88; refine kl tx88 ?_) | (apply cx42; refine kl tx42 ?_) | refine jst ?_ | exact ⟨rfl, rfl⟩ | exact jV | fail))
  · by_cases ho : (ndA t r).2 = true
    · have hpl := pgS_len t true r
      repeat' ((conv => whnf); (first | refine k0 ?_ | refine jA fun _ => ?_ | refine jB fun _ => ?_ | refine kC (fun _ => ?_) fun _ => ?_ | (apply cx88; refine kl tx88 ?_) | (apply cx42; refine kl tx42 ?_) | refine jst ?_ | exact ⟨rfl, rfl⟩ | exact jV | fail))
      conv => whnf
      refine loopk (ι := Nat) (fun i => i ≤ (pgS t true r).length ∧ ∀ j (h : j < (pgS t true r).length), j < i → ∀ k ∈ (ndA t (pgS t true r)[j]).1.kids, (ndA t k).2 = true) (fun i => (pgS t true r).length - i) (0) [2, 28] (fun i => [(27, .v false [.ref 3 0 (pgS t true r).length 1]), (29, .v false [i6 i])]) [none, none, none, some fun _ => nE (pgS t true r)] ?_
      refine ⟨⟨by omega, by intros; omega⟩, ?_, fun a ha => ?_⟩
      · exact jw []
      · refine ⟨fun hlt => ?_, fun hge => ?_⟩
        · have ha2 : a < (pgS t true r).length := by omega
          have hx := cN_le (ndA t (pgS t true r)[a]).1
          have hxl := ndA_len t (pgS t true r)[a]
          have hok : (ndA t (pgS t true r)[a]).2 = true := (pgS_mem.1 (List.getElem_mem ha2)).ok
          repeat' ((conv => whnf); (first | refine k0 ?_ | refine jA fun _ => ?_ | refine jB fun _ => ?_ | refine kC (fun _ => ?_) fun _ => ?_ | (apply cx88; refine kl tx88 ?_) | (apply cx42; refine kl tx42 ?_) | refine jst ?_ | exact ⟨rfl, rfl⟩ | exact jV | fail))
          conv => whnf
          refine loopk (ι := Nat) (fun i => i ≤ (ndA t (pgS t true r)[a]).1.kids.length ∧ ∀ j (h : j < (ndA t (pgS t true r)[a]).1.kids.length), j < i → (ndA t (ndA t (pgS t true r)[a]).1.kids[j]).2 = true) (fun i => (ndA t (pgS t true r)[a]).1.kids.length - i) (0) [2, 28, 29, 41] (fun i => [(27, .v false [.ref 3 0 (pgS t true r).length 1]), (40, .v false [.ref 4 0 (ndA t (pgS t true r)[a]).1.kids.length 1]), (42, .v false [i6 i])]) [none, none, none, some fun _ => nE (pgS t true r), some fun _ => nE (ndA t (pgS t true r)[a]).1.kids] ?_
          refine ⟨⟨by omega, by intros; omega⟩, ?_, fun c hc => ?_⟩
          · exact jw []
          · refine ⟨fun hlt => ?_, fun hge => ?_⟩
            · have hc2 : c < (ndA t (pgS t true r)[a]).1.kids.length := by omega
              repeat' ((conv => whnf); (first | refine k0 ?_ | refine jA fun _ => ?_ | refine jB fun _ => ?_ | refine kC (fun _ => ?_) fun _ => ?_ | (apply cx88; refine kl tx88 ?_) | (apply cx42; refine kl tx42 ?_) | refine jst ?_ | exact ⟨rfl, rfl⟩ | exact jV | fail))
              · refine ⟨⟨c + 1, by omega, all_suc hc.2 hc2 ‹_›⟩, by simp only; omega, ?_⟩
                exact jw []
              · exact ⟨by rw [led_no fun q => by
                  rcases q with q | ⟨_, q⟩
                  · exact hr q
                  · exact bct ‹_› (q _ (List.getElem_mem ha2) _ (List.getElem_mem hc2)).1], rfl⟩
            · repeat' ((conv => whnf); (first | refine k0 ?_ | refine jA fun _ => ?_ | refine jB fun _ => ?_ | refine kC (fun _ => ?_) fun _ => ?_ | (apply cx88; refine kl tx88 ?_) | (apply cx42; refine kl tx42 ?_) | refine jst ?_ | exact ⟨rfl, rfl⟩ | exact jV | fail))
              refine ⟨⟨a + 1, by omega, all_suc ha.2 ha2 (fun k hk => by
                obtain ⟨j, hj, rfl⟩ := List.getElem_of_mem hk
                exact hc.2 j hj (by omega))⟩, by simp only; omega, ?_⟩
              exact jw []
        · rw [led_yes (.inr ⟨ho, fun n hn k hk => by
            obtain ⟨j, hj, rfl⟩ := List.getElem_of_mem hn
            exact ⟨ha.2 j hj (by omega) k hk, .inl rfl⟩⟩)]
          repeat' ((conv => whnf); (first | refine k0 ?_ | refine jA fun _ => ?_ | refine jB fun _ => ?_ | refine kC (fun _ => ?_) fun _ => ?_ | (apply cx88; refine kl tx88 ?_) | (apply cx42; refine kl tx42 ?_) | refine jst ?_ | exact ⟨rfl, rfl⟩ | exact jV | fail))
    · have ho : (ndA t r).2 = false := by cases e : (ndA t r).2 with | false => rfl | true => exact absurd e ho
      rw [led_no fun q => by
        rcases q with q | ⟨q, _⟩
        · exact hr q
        · exact bct ho q]
      repeat' ((conv => whnf); (first | refine k0 ?_ | refine jA fun _ => ?_ | refine jB fun _ => ?_ | refine kC (fun _ => ?_) fun _ => ?_ | (apply cx88; refine kl tx88 ?_) | (apply cx42; refine kl tx42 ?_) | refine jst ?_ | exact ⟨rfl, rfl⟩ | exact jV | fail))

theorem cx53 {P : Program} {X : FuncId → List Arg → List (Bool × List Cell) → List (Option (List Cell)) → Prop} {a : List Arg} {Q : List (Bool × List Cell) → List (Option (List Cell)) → Prop} (h : ∃ b vals outs, a = b ∧ D P X (.call 53 b vals outs) ∧ Q vals outs) : CallS P X 53 a Q := ⟨h⟩

set_option maxHeartbeats 2000000 in
set_option maxRecDepth 100000 in
theorem tx49 {t : Txn} {r : Int} (ht : zT t ≤ 2000000 := by first | assumption | omega | (simp; done) | (simp; omega)) : T 49 [.val true (txnC false t), aI r] [vB (led t false r)] [none, none] := by
  refine w_call md [] Tryz.func49 rfl ?_
  have hpl := pgS_len t false r
  repeat' ((conv => whnf); (first | refine k0 ?_ | refine jA fun _ => ?_ | refine jB fun _ => ?_ | refine kC (fun _ => ?_) fun _ => ?_ | (apply cx40; refine kl tx40 ?_) | (apply cx95; refine kl tx95 ?_) | (apply cx41; refine kl tx41 ?_) | refine jst ?_ | exact ⟨rfl, rfl⟩ | exact jV | fail))
  conv => whnf
  refine loopk (ι := Nat) (fun i => i ≤ (pgS t false r).length ∧ ∀ j (h : j < (pgS t false r).length), j < i → ∀ k ∈ (ndA t (pgS t false r)[j]).1.kids, k ∈ pgS t false r) (fun i => (pgS t false r).length - i) (0) [1, 2] (fun i => [(5, .v false [.ref 3 0 (pgS t false r).length 1]), (6, .v false [i6 i])]) [none, none, none, some fun _ => nE (pgS t false r)] ?_
  refine ⟨⟨by omega, by intros; omega⟩, ?_, fun a ha => ?_⟩
  · exact jw []
  · repeat' ((conv => whnf); (first | refine k0 ?_ | (apply cx40; refine kl tx40 ?_) | (apply cx95; refine kl tx95 ?_) | (apply cx41; refine kl tx41 ?_) | refine jst ?_ | exact ⟨rfl, rfl⟩ | exact jV | fail))
    conv => whnf
    refine ⟨fun hlt => ?_, fun hge => ?_⟩
    · have ha2 : a < (pgS t false r).length := by omega
      have hx := cN_le (ndA t (pgS t false r)[a]).1
      have hxl := ndA_len t (pgS t false r)[a]
      have hok : (ndA t (pgS t false r)[a]).2 = true := (pgS_mem.1 (List.getElem_mem ha2)).ok
      repeat' ((conv => whnf); (first | refine k0 ?_ | refine jA fun _ => ?_ | refine jB fun _ => ?_ | refine kC (fun _ => ?_) fun _ => ?_ | (apply cx40; refine kl tx40 ?_) | (apply cx95; refine kl tx95 ?_) | (apply cx41; refine kl tx41 ?_) | refine jst ?_ | exact ⟨rfl, rfl⟩ | exact jV | fail))
      conv => whnf
      refine loopk (ι := Nat) (fun i => i ≤ (ndA t (pgS t false r)[a]).1.kids.length ∧ ∀ j (h : j < (ndA t (pgS t false r)[a]).1.kids.length), j < i → (ndA t (pgS t false r)[a]).1.kids[j] ∈ pgS t false r) (fun i => (ndA t (pgS t false r)[a]).1.kids.length - i) (0) [1, 2, 6] (fun i => [(5, .v false [.ref 3 0 (pgS t false r).length 1]), (7, .v false [.ptr 4 0]), (9, .v false [i6 i])]) [none, none, none, some fun _ => nE (pgS t false r), some fun _ => some (true, [b1 (ndA t (pgS t false r)[a]).1.leaf, .ref 5 0 (ndA t (pgS t false r)[a]).1.keys.length 1, .ref 6 0 (ndA t (pgS t false r)[a]).1.vals.length 1, .ref 7 0 (ndA t (pgS t false r)[a]).1.kids.length 1]), some fun _ => nE (ndA t (pgS t false r)[a]).1.keys, some fun _ => nE (ndA t (pgS t false r)[a]).1.vals, some fun _ => nE (ndA t (pgS t false r)[a]).1.kids] ?_
      refine ⟨⟨by omega, by intros; omega⟩, ?_, fun c hc => ?_⟩
      · exact jw [4]
      · repeat' ((conv => whnf); (first | refine k0 ?_ | (apply cx40; refine kl tx40 ?_) | (apply cx95; refine kl tx95 ?_) | (apply cx41; refine kl tx41 ?_) | refine jst ?_ | exact ⟨rfl, rfl⟩ | exact jV | fail))
        conv => whnf
        refine ⟨fun hlt => ?_, fun hge => ?_⟩
        · have hc2 : c < (ndA t (pgS t false r)[a]).1.kids.length := by omega
          repeat' ((conv => whnf); (first | refine k0 ?_ | refine jA fun _ => ?_ | refine jB fun _ => ?_ | refine kC (fun _ => ?_) fun _ => ?_ | (apply cx40; refine kl tx40 ?_) | (apply cx95; refine kl tx95 ?_) | (apply cx41; refine kl tx41 ?_) | refine jst ?_ | exact ⟨rfl, rfl⟩ | exact jV | fail))
          · refine ⟨⟨c + 1, by omega, all_suc hc.2 hc2 (hasI_iff.1 ‹_›)⟩, by simp only; omega, ?_⟩
            exact jw [4]
          · exact ⟨by rw [led_no fun q => by
              have q2 := hasI_iff.2 ((led_iff2.1 q).1 _ (List.getElem_mem ha2) _ (List.getElem_mem hc2))
              exact bct ‹_› q2], rfl⟩
        · repeat' ((conv => whnf); (first | refine k0 ?_ | refine jA fun _ => ?_ | refine jB fun _ => ?_ | refine kC (fun _ => ?_) fun _ => ?_ | (apply cx40; refine kl tx40 ?_) | (apply cx95; refine kl tx95 ?_) | (apply cx41; refine kl tx41 ?_) | refine jst ?_ | exact ⟨rfl, rfl⟩ | exact jV | fail))
          refine ⟨⟨a + 1, by omega, all_suc ha.2 ha2 (fun k hk => by
            obtain ⟨j, hj, rfl⟩ := List.getElem_of_mem hk
            exact hc.2 j hj (by omega))⟩, by simp only; omega, ?_⟩
          exact jw []
    · have hall : ∀ n ∈ pgS t false r, ∀ k ∈ (ndA t n).1.kids, k ∈ pgS t false r := fun n hn k hk => by
        obtain ⟨j, hj, rfl⟩ := List.getElem_of_mem hn
        exact ha.2 j hj (by omega) k hk
      repeat' ((conv => whnf); (first | refine k0 ?_ | refine jA fun _ => ?_ | refine jB fun _ => ?_ | refine kC (fun _ => ?_) fun _ => ?_ | (apply cx40; refine kl tx40 ?_) | (apply cx95; refine kl tx95 ?_) | (apply cx41; refine kl tx41 ?_) | refine jst ?_ | exact ⟨rfl, rfl⟩ | exact jV | fail))
      all_goals first
        | exact ⟨by rw [led_yes (led_iff2.2 ⟨hall, .inl ‹_›⟩)] <;> rfl, rfl⟩
        | exact ⟨by rw [led_yes (led_iff2.2 ⟨hall, .inr (hasI_iff.1 ‹_›)⟩)] <;> rfl, rfl⟩
        | exact ⟨by rw [led_no fun q => (led_iff2.1 q).2.elim ‹¬ _› fun q => bct ‹_› (hasI_iff.2 q)] <;> rfl, rfl⟩

theorem cx49 {P : Program} {X : FuncId → List Arg → List (Bool × List Cell) → List (Option (List Cell)) → Prop} {a : List Arg} {Q : List (Bool × List Cell) → List (Option (List Cell)) → Prop} (h : ∃ b vals outs, a = b ∧ D P X (.call 49 b vals outs) ∧ Q vals outs) : CallS P X 49 a Q := ⟨h⟩

open Classical in
noncomputable def newsOk (t : Txn) : Bool := decide (NewsOk t false)
theorem newsOk_yes {t : Txn} (h : NewsOk t false) : newsOk t = true := by unfold newsOk; simp [h]
theorem newsOk_no {t : Txn} (h : ¬ NewsOk t false) : newsOk t = false := by unfold newsOk; simp [h]
theorem newsOk_iff {t : Txn} : newsOk t = true ↔ NewsOk t false := by unfold newsOk; simp
theorem frL_len2 (t : Txn) : (frL t).length ≤ zT t := by
  have h1 := frT_len t t.d.secs.length
  have h2 := zT_d (t := t)
  have h3 : frL t = frT t t.d.secs.length := by unfold frL; rfl
  rw [h3]
  unfold zD zBS at h2; omega
theorem led_dn {t t' : Txn} {z : Bool} {r : Int} (h : t.d = t'.d) (h2 : t.new = t'.new) : led t z r = led t' z r := by
  have e : ∀ n, ndA t n = ndA t' n := fun n => by rw [← ndA_bare t, ← ndA_bare t']; show ndA ⟨t.d, ⟨0, 0⟩, 0, t.new⟩ n = _; rw [h, h2]
  have e2 : Led t z r ↔ Led t' z r := by unfold Led; simp only [e, pgS_dn h h2]
  by_cases q : Led t z r
  · rw [led_yes q, led_yes (e2.1 q)]
  · rw [led_no q, led_no fun p => q (e2.2 p)]
theorem has_no {l : List Int} {n : Int} (h : hasI l n = false) : n ∉ l := fun q => by rw [hasI_iff.2 q] at h; cases h

set_option maxHeartbeats 2000000 in
set_option maxRecDepth 100000 in
theorem tx48 {t : Txn} (ht : zT t ≤ 2000000 := by first | assumption | omega | (simp; done) | (simp; omega)) : T 48 [.val true (txnC false t)] [vB (newsOk t)] [none] := by
  refine w_call md [] Tryz.func48 rfl ?_
  have hz := zT_onD t
  have hzn := zT_new (t := t)
  have hz2 : zT ⟨t.d, t.m, 0, []⟩ ≤ 2000000 := Nat.le_trans hz ht
  have hF : T 16 [.val true (txnC false ⟨t.d, t.m, 0, []⟩)] [vE (frL (onD t))] [none] := by
    rw [← frL_dn (t := ⟨t.d, t.m, 0, []⟩) (t' := onD t) rfl rfl rfl]; exact tx16
  have hfl := frL_len2 (onD t)
  have hpl := pgS_len t false t.root
  repeat' ((conv => whnf); (first | (apply cx16; refine kl (hF) ?_) | refine k0 ?_ | refine jA fun _ => ?_ | refine jB fun _ => ?_ | refine kC (fun _ => ?_) fun _ => ?_ | (apply cx16; refine kl tx16 ?_) | (apply cx40; refine kl tx40 ?_) | (apply cx94; refine kl tx94 ?_) | (apply cx41; refine kl tx41 ?_) | refine jst ?_ | exact ⟨rfl, rfl⟩ | exact jV | fail))
  conv => whnf
  refine loopk (ι := Nat) (fun i => i ≤ t.new.length ∧ ∀ j (h : j < t.new.length), j < i → NewOk t false j h) (fun i => t.new.length - i) (0) [1] (fun i => [(3, .v false [.ref 2 0 (frL (onD t)).length 1]), (4, .v false [.ref 3 0 (pgS t false t.root).length 1]), (5, .v false [i6 i])]) [none, none, some fun _ => nE (frL (onD t)), some fun _ => nE (pgS t false t.root)] ?_
  refine ⟨⟨by omega, by intros; omega⟩, ?_, fun a ha => ?_⟩
  · exact jw []
  · repeat' ((conv => whnf); (first | refine k0 ?_ | (apply cx16; refine kl tx16 ?_) | (apply cx40; refine kl tx40 ?_) | (apply cx94; refine kl tx94 ?_) | (apply cx41; refine kl tx41 ?_) | refine jst ?_ | exact ⟨rfl, rfl⟩ | exact jV | fail))
    conv => whnf
    refine ⟨fun hlt => ?_, fun hge => ?_⟩
    · have ha2 : a < t.new.length := by omega
      have hxz := zT_nod (List.getElem_mem ha2)
      repeat' ((conv => whnf); (first | (apply cx94; refine kl (tx94 (x := t.new[a].x)) ?_) | refine And.intro ⟨by omega, by omega⟩ (Exists.intro _ (And.intro (rdI (i := (a - 1)) (by omega) (by omega)) ?_)) | refine k0 ?_ | refine jA fun _ => ?_ | refine jB fun _ => ?_ | refine kC (fun _ => ?_) fun _ => ?_ | (apply cx16; refine kl tx16 ?_) | (apply cx40; refine kl tx40 ?_) | (apply cx94; refine kl tx94 ?_) | (apply cx41; refine kl tx41 ?_) | refine jst ?_ | exact ⟨rfl, rfl⟩ | exact jV | fail))
      · exact ⟨by rw [newsOk_no fun q => by have := (q a ha2).ord (by omega); omega], rfl⟩
      · refine ⟨⟨a + 1, by omega, all_suc ha.2 ha2 ⟨hasI_iff.1 ‹_›, hasI_iff.1 ‹_›, nodOk_iff.1 ‹_›, fun _ => by omega⟩⟩, by simp only; omega, ?_⟩
        exact jw []
      · refine ⟨⟨a + 1, by omega, all_suc ha.2 ha2 ⟨hasI_iff.1 ‹_›, hasI_iff.1 ‹_›, nodOk_iff.1 ‹_›, fun _ => by omega⟩⟩, by simp only; omega, ?_⟩
        exact jw []
      · exact ⟨by rw [newsOk_no fun q => has_no ‹_› (q a ha2).led], rfl⟩
      · exact ⟨by rw [newsOk_no fun q => has_no ‹_› (q a ha2).free], rfl⟩
      · exact ⟨by rw [newsOk_no fun q => bct ‹_› (nodOk_iff.2 (q a ha2).ok)], rfl⟩
    · rw [newsOk_yes fun j hj => ha.2 j hj (by omega)]
      repeat' ((conv => whnf); (first | refine k0 ?_ | refine jA fun _ => ?_ | refine jB fun _ => ?_ | refine kC (fun _ => ?_) fun _ => ?_ | (apply cx16; refine kl tx16 ?_) | (apply cx40; refine kl tx40 ?_) | (apply cx94; refine kl tx94 ?_) | (apply cx41; refine kl tx41 ?_) | refine jst ?_ | exact ⟨rfl, rfl⟩ | exact jV | fail))

theorem cx48 {P : Program} {X : FuncId → List Arg → List (Bool × List Cell) → List (Option (List Cell)) → Prop} {a : List Arg} {Q : List (Bool × List Cell) → List (Option (List Cell)) → Prop} (h : ∃ b vals outs, a = b ∧ D P X (.call 48 b vals outs) ∧ Q vals outs) : CallS P X 48 a Q := ⟨h⟩

set_option maxHeartbeats 2000000 in
set_option maxRecDepth 100000 in
theorem tx47 {d : Dsk} (hd : zD d ≤ 2000000 := by first | assumption | omega | (simp; done) | (simp; omega)) : T 47 [.val true (dskC false d)] [vB (dskOk d)] [none] := by
  obtain ⟨secs, cache, ops, faults, down⟩ := d
  have hz : secs.length + cnt List.length secs + (cache.length + cnt (fun w : Wri => w.b.length) cache) + faults.length ≤ 2000000 := hd
  dsimp only [dskC]
  refine w_call md [] Tryz.func47 rfl ?_
  cases down
  all_goals repeat' ((conv => whnf); (first | refine k0 ?_ | refine jA fun _ => ?_ | refine jB fun _ => ?_ | refine kC (fun _ => ?_) fun _ => ?_ | (apply cx92; refine kl tx92 ?_) | (apply cx93; refine kl tx93 ?_) | refine jst ?_ | exact ⟨rfl, rfl⟩ | exact jV | fail))
  all_goals
    conv => whnf
    refine loopk (ι := Nat) (fun i => i ≤ secs.length ∧ ∀ j (h : j < secs.length), j < i → secs[j].length ≤ 256) (fun i => secs.length - i) (0) [1] (fun i => [(3, .v false [i6 i])]) [none, none] ?_
    refine ⟨⟨by omega, by intros; omega⟩, ?_, fun i hi => ?_⟩
    · exact jw []
    · repeat' ((conv => whnf); (first | refine k0 ?_ | (apply cx92; refine kl tx92 ?_) | (apply cx93; refine kl tx93 ?_) | refine jst ?_ | exact ⟨rfl, rfl⟩ | exact jV | fail))
      conv => whnf
      refine ⟨fun hlt => ?_, fun hge => ?_⟩
      · have hi2 : i < secs.length := by omega
        repeat' ((conv => whnf); (first | refine k0 ?_ | refine jA fun _ => ?_ | refine jB fun _ => ?_ | refine kC (fun _ => ?_) fun _ => ?_ | (apply cx92; refine kl tx92 ?_) | (apply cx93; refine kl tx93 ?_) | refine jst ?_ | exact ⟨rfl, rfl⟩ | exact jV | fail))
        · exact ⟨by rw [dskOk_no (fun q => by have := q.sec i hi2; dsimp only at *; omega)], rfl⟩
        · refine ⟨⟨i + 1, by omega, all_suc hi.2 hi2 (by (try simp only [inB_iff] at *); (try simp only [inB_no] at *); omega)⟩, by simp only; omega, ?_⟩
          exact jw []
      · obtain rfl : i = secs.length := by omega
        have hA := hi.2
        repeat' ((conv => whnf); (first | refine k0 ?_ | refine jA fun _ => ?_ | refine jB fun _ => ?_ | refine kC (fun _ => ?_) fun _ => ?_ | (apply cx92; refine kl tx92 ?_) | (apply cx93; refine kl tx93 ?_) | refine jst ?_ | exact ⟨rfl, rfl⟩ | exact jV | fail))
        conv => whnf
        refine loopk (ι := Nat) (fun i => i ≤ cache.length ∧ ∀ j (h : j < cache.length), j < i → 0 ≤ cache[j].n ∧ cache[j].n ≤ (secs.length : Int) - 1 ∧ cache[j].b.length ≤ 256) (fun i => cache.length - i) (0) [1] (fun i => [(4, .v false [i6 i])]) [none, none] ?_
        refine ⟨⟨by omega, by intros; omega⟩, ?_, fun i hi => ?_⟩
        · exact jw []
        · repeat' ((conv => whnf); (first | refine k0 ?_ | (apply cx92; refine kl tx92 ?_) | (apply cx93; refine kl tx93 ?_) | refine jst ?_ | exact ⟨rfl, rfl⟩ | exact jV | fail))
          conv => whnf
          refine ⟨fun hlt => ?_, fun hge => ?_⟩
          · have hi2 : i < cache.length := by omega
            repeat' ((conv => whnf); (first | refine k0 ?_ | refine jA fun _ => ?_ | refine jB fun _ => ?_ | refine kC (fun _ => ?_) fun _ => ?_ | (apply cx92; refine kl tx92 ?_) | (apply cx93; refine kl tx93 ?_) | refine jst ?_ | exact ⟨rfl, rfl⟩ | exact jV | fail))
            all_goals first
              | exact ⟨by rw [dskOk_no (fun q => by have := q.wri i hi2; dsimp only at *; (try simp only [inB_iff] at *); (try simp only [inB_no] at *); omega)], rfl⟩
              | (refine ⟨⟨i + 1, by omega, all_suc hi.2 hi2 (by (try simp only [inB_iff] at *); (try simp only [inB_no] at *); omega)⟩, by simp only; omega, ?_⟩
                 exact jw [])
          · obtain rfl : i = cache.length := by omega
            have hB := hi.2
            repeat' ((conv => whnf); (first | refine k0 ?_ | refine jA fun _ => ?_ | refine jB fun _ => ?_ | refine kC (fun _ => ?_) fun _ => ?_ | (apply cx92; refine kl tx92 ?_) | (apply cx93; refine kl tx93 ?_) | refine jst ?_ | exact ⟨rfl, rfl⟩ | exact jV | fail))
            all_goals first
              | (have hf := fauOk_iff.1 ‹fauOk faults = true›
                 exact ⟨by rw [dskOk_yes ⟨by dsimp only; (try simp only [inB_iff] at *); (try simp only [inB_no] at *); omega, by dsimp only; omega, by dsimp only; (try simp only [inB_iff] at *); (try simp only [inB_no] at *); omega, hf.len, by dsimp only; first | (intro h; cases h; done) | (intro _; exact List.length_eq_zero_iff.1 (by omega)), fun j h => hA j h h, fun j h => hB j h h, hf.fau⟩] <;> rfl, rfl⟩)
              | exact ⟨by rw [dskOk_no (fun q => bct ‹fauOk faults = false› (fauOk_yes ⟨q.faults, q.fau⟩))] <;> rfl, rfl⟩
              | exact ⟨by rw [dskOk_no (fun q => by obtain ⟨a1, a2, a3, a4, a5, a6, a7, a8⟩ := q; dsimp only at *; (try simp only [inB_iff] at *); (try simp only [inB_no] at *); first | omega | (have h5 := congrArg List.length (a5 (by first | rfl | trivial)); simp only [List.length_nil] at h5; omega))] <;> rfl, rfl⟩

theorem cx47 {P : Program} {X : FuncId → List Arg → List (Bool × List Cell) → List (Option (List Cell)) → Prop} {a : List Arg} {Q : List (Bool × List Cell) → List (Option (List Cell)) → Prop} (h : ∃ b vals outs, a = b ∧ D P X (.call 47 b vals outs) ∧ Q vals outs) : CallS P X 47 a Q := ⟨h⟩

theorem eqM (a b c d : Int) : eqStruct Tryz.prog 39 [i6 a, i6 b] [i6 c, i6 d] = (match (some (a == c) : Option Bool) with | some true => (match (some (b == d) : Option Bool) with | some true => some true | some false => some false | none => none) | some false => some false | none => none) := by kernel_rfl
theorem eqM_yes {a b c d : Int} (h : a = c ∧ b = d) : eqStruct Tryz.prog 39 [i6 a, i6 b] [i6 c, i6 d] = some true := by
  obtain ⟨rfl, rfl⟩ := h
  rw [eqM, beq_self_eq_true, beq_self_eq_true]
theorem eqM_no {a b c d : Int} (h : ¬ (a = c ∧ b = d)) : eqStruct Tryz.prog 39 [i6 a, i6 b] [i6 c, i6 d] = some false := by
  rw [eqM]
  by_cases h1 : a = c
  · have h2 : b ≠ d := fun e => h ⟨h1, e⟩
    subst h1
    rw [beq_self_eq_true, beq_false_of_ne h2]
  · rw [beq_false_of_ne h1]
theorem met_ext {x y : Met} (h : x.gen = y.gen ∧ x.root = y.root) : x = y := by
  obtain ⟨a, b⟩ := x
  obtain ⟨c, d⟩ := y
  obtain ⟨rfl, rfl⟩ := h
  rfl

set_option maxHeartbeats 2000000 in
set_option maxRecDepth 100000 in
theorem tx21 {t : Txn} (ht : zT t ≤ 2000000 := by first | assumption | omega | (simp; done) | (simp; omega)) : T 21 [.val true (txnC false t)] [vB (txOk t)] [none] := by
  refine w_call md [] Tryz.func21 rfl ?_
  have hz : zT ⟨t.d, ⟨0, 0⟩, 0, []⟩ ≤ 2000000 := Nat.le_trans (zT_onD t) ht
  have hzd := zT_d (t := t)
  have hW : T 49 [.val true (txnC false ⟨t.d, ⟨0, 0⟩, 0, []⟩), aI t.m.root] [vB (led (onD t) false t.m.root)] [none, none] := by
    rw [← led_dn (t := ⟨t.d, ⟨0, 0⟩, 0, []⟩) (t' := onD t) rfl rfl]; exact tx49
  by_cases hm : (bestM t.d).1.gen = t.m.gen ∧ (bestM t.d).1.root = t.m.root
  · repeat' ((conv => whnf); (first | (apply cx49; refine kl (hW) ?_) | refine ko (eqM_yes hm) ?_ | refine k0 ?_ | refine jA fun _ => ?_ | refine jB fun _ => ?_ | refine kC (fun _ => ?_) fun _ => ?_ | (apply cx46; refine kl tx46 ?_) | (apply cx47; refine kl tx47 ?_) | (apply cx48; refine kl tx48 ?_) | (apply cx49; refine kl tx49 ?_) | refine jst ?_ | exact ⟨rfl, rfl⟩ | exact jV | fail))
    all_goals first
      | exact ⟨by rw [txOk_yes ⟨dskOk_iff.1 ‹dskOk _ = true›, ‹(bestM t.d).2 = true›, met_ext hm, newsOk_iff.1 ‹newsOk _ = true›, led_iff.1 ‹led t false t.root = true›, led_iff.1 ‹led (onD t) false t.m.root = true›⟩] <;> rfl, rfl⟩
      | exact ⟨by rw [txOk_no fun q => bct ‹dskOk _ = false› (dskOk_yes q.d)] <;> rfl, rfl⟩
      | exact ⟨by rw [txOk_no fun q => bct ‹(bestM t.d).2 = false› q.found] <;> rfl, rfl⟩
      | exact ⟨by rw [txOk_no fun q => bct ‹newsOk _ = false› (newsOk_yes q.new)] <;> rfl, rfl⟩
      | exact ⟨by rw [txOk_no fun q => bct ‹led t false t.root = false› (led_yes q.led)] <;> rfl, rfl⟩
      | exact ⟨by rw [txOk_no fun q => bct ‹led (onD t) false t.m.root = false› (led_yes q.old)] <;> rfl, rfl⟩
  · repeat' ((conv => whnf); (first | (apply cx49; refine kl (hW) ?_) | refine ko (eqM_no hm) ?_ | refine k0 ?_ | refine jA fun _ => ?_ | refine jB fun _ => ?_ | refine kC (fun _ => ?_) fun _ => ?_ | (apply cx46; refine kl tx46 ?_) | (apply cx47; refine kl tx47 ?_) | (apply cx48; refine kl tx48 ?_) | (apply cx49; refine kl tx49 ?_) | refine jst ?_ | exact ⟨rfl, rfl⟩ | exact jV | fail))
    all_goals exact ⟨by rw [txOk_no fun q => hm ⟨by rw [q.m], by rw [q.m]⟩] <;> rfl, rfl⟩

theorem cx21 {P : Program} {X : FuncId → List Arg → List (Bool × List Cell) → List (Option (List Cell)) → Prop} {a : List Arg} {Q : List (Bool × List Cell) → List (Option (List Cell)) → Prop} (h : ∃ b vals outs, a = b ∧ D P X (.call 21 b vals outs) ∧ Q vals outs) : CallS P X 21 a Q := ⟨h⟩

theorem NewsOk.nod {t : Txn} {z : Bool} (h : NewsOk t z) : ∀ f ∈ t.new, NodOk f.x := fun f hf => by
  obtain ⟨j, hj, rfl⟩ := List.getElem_of_mem hf
  exact (h j hj).ok

set_option maxHeartbeats 2000000 in
set_option maxRecDepth 100000 in
theorem tx22 {t : Txn} (ht : zT t ≤ 2000000 := by first | assumption | omega | (simp; done) | (simp; omega)) : T 22 [.val true (txnC false t)] [vB (txOk t)] [none] := by
  refine w_call md [] Tryz.func22 rfl ?_
  have hz := zT_onD t
  have hzd := zT_d (t := t)
  have hzn := zT_new (t := t)
  have hfl := frL_len2 (onD t)
  have hpl := pgS_len t true t.root
  by_cases hm : (bestM t.d).1.gen = t.m.gen ∧ (bestM t.d).1.root = t.m.root
  · repeat' ((conv => whnf); (first | refine ko (eqM_yes hm) ?_ | (apply cx17; refine kl (tx17 (t := onD t)) ?_) | refine k0 ?_ | refine jA fun _ => ?_ | refine jB fun _ => ?_ | refine kC (fun _ => ?_) fun _ => ?_ | (apply cx50; refine kl tx50 ?_) | (apply cx51; refine kl tx51 ?_) | (apply cx43; refine kl tx43 ?_) | (apply cx17; refine kl tx17 ?_) | (apply cx42; refine kl tx42 ?_) | (apply cx44; refine kl tx44 ?_) | (apply cx52; refine kl tx52 ?_) | (apply cx53; refine kl tx53 ?_) | refine jst ?_ | exact ⟨rfl, rfl⟩ | exact jV | fail))
    all_goals try first
      | exact ⟨by rw [txOk_no fun q => bct ‹dskOk _ = false› (dskOk_yes q.d)] <;> rfl, rfl⟩
      | exact ⟨by rw [txOk_no fun q => bct ‹(bestM t.d).2 = false› q.found] <;> rfl, rfl⟩
    conv => whnf
    refine loopk (ι := Nat) (fun i => i ≤ t.new.length ∧ ∀ j (h : j < t.new.length), j < i → NewOk t true j h) (fun i => t.new.length - i) (0) [1, 37, 38] (fun i => [(5, .v false [.ref 2 0 (frL (onD t)).length 1]), (6, .v false [.ref 3 0 (pgS t true t.root).length 1]), (39, .v false [i6 i])]) [none, none, some fun _ => nE (frL (onD t)), some fun _ => nE (pgS t true t.root)] ?_
    refine ⟨⟨by omega, by intros; omega⟩, ?_, fun a ha => ?_⟩
    · exact jw []
    · refine ⟨fun hlt => ?_, fun hge => ?_⟩
      · have ha2 : a < t.new.length := by omega
        have hxz := zT_nod (List.getElem_mem ha2)
        repeat' ((conv => whnf); (first | (apply cx52; refine kl (tx52 (x := t.new[a].x)) ?_) | refine And.intro ⟨by omega, by omega⟩ (Exists.intro _ (And.intro (rdI (i := (a - 1)) (by omega) (by omega)) ?_)) | refine k0 ?_ | refine jA fun _ => ?_ | refine jB fun _ => ?_ | refine kC (fun _ => ?_) fun _ => ?_ | (apply cx50; refine kl tx50 ?_) | (apply cx51; refine kl tx51 ?_) | (apply cx43; refine kl tx43 ?_) | (apply cx17; refine kl tx17 ?_) | (apply cx42; refine kl tx42 ?_) | (apply cx44; refine kl tx44 ?_) | (apply cx52; refine kl tx52 ?_) | (apply cx53; refine kl tx53 ?_) | refine jst ?_ | exact ⟨rfl, rfl⟩ | exact jV | fail))
        · exact ⟨by rw [txOk_no fun q => by have := (NewsOk.up.2 q.new a ha2).ord (by omega); omega], rfl⟩
        · refine ⟨⟨a + 1, by omega, all_suc ha.2 ha2 ⟨hasI_iff.1 ‹_›, hasI_iff.1 ‹_›, nodOk_iff.1 ‹_›, fun _ => by omega⟩⟩, by simp only; omega, ?_⟩
          exact jw []
        · refine ⟨⟨a + 1, by omega, all_suc ha.2 ha2 ⟨hasI_iff.1 ‹_›, hasI_iff.1 ‹_›, nodOk_iff.1 ‹_›, fun _ => by omega⟩⟩, by simp only; omega, ?_⟩
          exact jw []
        · exact ⟨by rw [txOk_no fun q => bct ‹_› (nodOk_iff.2 (NewsOk.up.2 q.new a ha2).ok)], rfl⟩
        · exact ⟨by rw [txOk_no fun q => has_no ‹_› (NewsOk.up.2 q.new a ha2).led], rfl⟩
        · exact ⟨by rw [txOk_no fun q => has_no ‹_› (NewsOk.up.2 q.new a ha2).free], rfl⟩
      · have hN : NewsOk t true := fun j hj => ha.2 j hj (by omega)
        have hL1 : T 53 [.val true (txnC false t), aI t.root] [vB (led t false t.root)] [none, none] := by
          rw [← led_up hN.nod]; exact tx53
        have hL2 : T 53 [.val true (txnC false (onD t)), aI t.m.root] [vB (led (onD t) false t.m.root)] [none, none] := by
          rw [← led_onD]; exact tx53 (t := onD t)
        repeat' ((conv => whnf); (first | (apply cx53; refine kl (hL1) ?_) | (apply cx53; refine kl (hL2) ?_) | refine k0 ?_ | refine jA fun _ => ?_ | refine jB fun _ => ?_ | refine kC (fun _ => ?_) fun _ => ?_ | (apply cx50; refine kl tx50 ?_) | (apply cx51; refine kl tx51 ?_) | (apply cx43; refine kl tx43 ?_) | (apply cx17; refine kl tx17 ?_) | (apply cx42; refine kl tx42 ?_) | (apply cx44; refine kl tx44 ?_) | (apply cx52; refine kl tx52 ?_) | (apply cx53; refine kl tx53 ?_) | refine jst ?_ | exact ⟨rfl, rfl⟩ | exact jV | fail))
        all_goals first
          | exact ⟨by rw [txOk_yes ⟨dskOk_iff.1 ‹dskOk _ = true›, ‹(bestM t.d).2 = true›, met_ext hm, NewsOk.up.1 hN, led_iff.1 ‹led t false t.root = true›, led_iff.1 ‹led (onD t) false t.m.root = true›⟩] <;> rfl, rfl⟩
          | exact ⟨by rw [txOk_no fun q => bct ‹led t false t.root = false› (led_yes q.led)] <;> rfl, rfl⟩
          | exact ⟨by rw [txOk_no fun q => bct ‹led (onD t) false t.m.root = false› (led_yes q.old)] <;> rfl, rfl⟩
  · repeat' ((conv => whnf); (first | refine ko (eqM_no hm) ?_ | refine k0 ?_ | refine jA fun _ => ?_ | refine jB fun _ => ?_ | refine kC (fun _ => ?_) fun _ => ?_ | (apply cx50; refine kl tx50 ?_) | (apply cx51; refine kl tx51 ?_) | (apply cx43; refine kl tx43 ?_) | (apply cx17; refine kl tx17 ?_) | (apply cx42; refine kl tx42 ?_) | (apply cx44; refine kl tx44 ?_) | (apply cx52; refine kl tx52 ?_) | (apply cx53; refine kl tx53 ?_) | refine jst ?_ | exact ⟨rfl, rfl⟩ | exact jV | fail))
    all_goals exact ⟨by rw [txOk_no fun q => hm ⟨by rw [q.m], by rw [q.m]⟩] <;> rfl, rfl⟩

theorem cx22 {P : Program} {X : FuncId → List Arg → List (Bool × List Cell) → List (Option (List Cell)) → Prop} {a : List Arg} {Q : List (Bool × List Cell) → List (Option (List Cell)) → Prop} (h : ∃ b vals outs, a = b ∧ D P X (.call 22 b vals outs) ∧ Q vals outs) : CallS P X 22 a Q := ⟨h⟩

end Go.Proofs.YtkggnekdjdnhiaaGreat
