/- Functions of the program, each with what it gives back. -/
import Derived.Test.YtkggnekdjdnhiaaGreatKe
import Derived.Test.YtkggnekdjdnhiaaGreatChecked
import Derived.IntWalk
import Derived.Test.YtkggnekdjdnhiaaGreatLa
namespace Go.Proofs.YtkggnekdjdnhiaaGreat
open Go Go.RowKit Go.IntWalk
open Enc (sz cs)
attribute [local irreducible] IntKind.wrap

set_option maxRecDepth 100000 in
theorem tx123 {w : Wri} {n : Int} (hn : 0 ≤ n ∧ n ≤ 1000000000000 := by first | assumption | omega | (simp; done) | (simp; omega)) (hw : w.b.length ≤ 1000000000000000 := by first | assumption | omega | (simp; done) | (simp; omega)) : T 123 [.val true (wriC false w), aI n] [vI (if n < ((w.b.length : Nat) : Int) then -1 else n - ((w.b.length : Nat) : Int))] [none, none] := by
  refine w_call md [] Tryz.func123 rfl ?_
  repeat' ((conv => whnf); (first | refine k0 ?_ | refine jA fun _ => ?_ | refine jB fun _ => ?_ | refine kC (fun _ => ?_) fun _ => ?_ | refine jS ?_ | refine jI ?_ | (apply cx122; refine kl tx122 ?_) | refine jD ?_ | refine ⟨snc, _, snr, ?_⟩ | refine ⟨⟨Nat.le_refl _, rfl⟩, [], rfl, ?_⟩ | refine And.intro ⟨rfl, rfl, by decide, rfl⟩ ?_ | refine jP ?_ | refine jO ?_ | refine jX ?_ | refine jb jr ?_ | refine jb ofs ?_ | refine ko jc ?_ | refine ko jp ?_ | refine jM ?_ | refine kr ?_ | refine ko rfl ?_ | refine And.intro (cs_shal _) ?_ | refine And.intro (rfl : List.all _ _ = true) ?_ | refine And.intro ⟨rfl, (rfl : List.all _ _ = true)⟩ ?_ | exact ⟨rfl, rfl⟩ | exact jV | fail))

theorem cx123 {P : Program} {X : FuncId → List Arg → List (Bool × List Cell) → List (Option (List Cell)) → Prop} {a : List Arg} {Q : List (Bool × List Cell) → List (Option (List Cell)) → Prop} (h : ∃ b vals outs, a = b ∧ D P X (.call 123 b vals outs) ∧ Q vals outs) : CallS P X 123 a Q := ⟨h⟩

set_option maxRecDepth 100000 in
theorem tx75 {l : List (List UInt8)} {n : Int} (hn : 0 ≤ n ∧ n ≤ 1000000000000 := by first | assumption | omega | (simp; done) | (simp; omega)) (hl : l.length ≤ 100000000000000 := by first | assumption | omega | (simp; done) | (simp; omega)) (hel : ∀ x ∈ l, x.length ≤ 1000000000000000 := by assumption) : T 75 [aE l, aI n] [vI (if n < ((l.length + cnt (List.length) l : Nat) : Int) then -1 else n - ((l.length + cnt (List.length) l : Nat) : Int))] [none, none] := by
  refine w_call md [] Tryz.func75 rfl ?_
  repeat' ((conv => whnf); (first | refine k0 ?_ | refine jA fun _ => ?_ | refine jB fun _ => ?_ | refine kC (fun _ => ?_) fun _ => ?_ | refine jS ?_ | refine jI ?_ | (apply cx122; refine kl tx122 ?_) | refine jD ?_ | refine ⟨snc, _, snr, ?_⟩ | refine ⟨⟨Nat.le_refl _, rfl⟩, [], rfl, ?_⟩ | refine And.intro ⟨rfl, rfl, by decide, rfl⟩ ?_ | refine jP ?_ | refine jO ?_ | refine jX ?_ | refine jb jr ?_ | refine jb ofs ?_ | refine ko jc ?_ | refine ko jp ?_ | refine jM ?_ | refine kr ?_ | refine ko rfl ?_ | refine And.intro (cs_shal _) ?_ | refine And.intro (rfl : List.all _ _ = true) ?_ | refine And.intro ⟨rfl, (rfl : List.all _ _ = true)⟩ ?_ | exact ⟨rfl, rfl⟩ | exact jV | fail))
  conv => whnf
  refine loopk (ι := Nat) (fun i => i ≤ l.length ∧ (l.length + cnt (List.length) (l.take i) : Nat) ≤ n) (fun i => l.length - i) (0) [0] (fun i => [(1, .v false [i6 (n - (l.length + cnt (List.length) (l.take i) : Nat))]), (5, .v false [i6 i])]) [none, none] ?_
  refine ⟨⟨by omega, by simp [cnt]; omega⟩, ?_, fun i hi => ?_⟩
  · exact w_autoX [] (by (conv => whnf); exact And.intro (by kernel_rfl) (And.intro (by kernel_rfl) (by repeat' (first | (with_reducible exact rfl) | ((conv => whnf); first | exact trivial | exact tvi (by simp [cnt]) | exact rfl | exact tvi (by first | omega | (dsimp only; omega) | (simp; done)) | exact tvr (by first | omega | (dsimp only; omega) | (simp; done) | (simp; omega)) | exact ⟨rfl, clo_i, by first | rfl | rw [List.take_length] | assumption⟩ | refine And.intro ?_ ?_)))))
  · have hle := cnt_le (c := List.length) (xs := l) (i := i)
    refine ⟨fun hlt => ?_, fun hge => ?_⟩
    · have hi2 : i < l.length := by omega
      have hc := cnt_take (c := List.length) hi2
      have hle2 := cnt_le (c := List.length) (xs := l) (i := i + 1)
      have he := hel _ (List.getElem_mem hi2)
      try dsimp only at hc he
      repeat' ((conv => whnf); (first | refine k0 ?_ | refine jA fun _ => ?_ | refine jB fun _ => ?_ | refine kC (fun _ => ?_) fun _ => ?_ | refine jS ?_ | refine jI ?_ | (apply cx122; refine kl tx122 ?_) | refine jD ?_ | refine ⟨snc, _, snr, ?_⟩ | refine ⟨⟨Nat.le_refl _, rfl⟩, [], rfl, ?_⟩ | refine And.intro ⟨rfl, rfl, by decide, rfl⟩ ?_ | refine jP ?_ | refine jO ?_ | refine jX ?_ | refine jb jr ?_ | refine jb ofs ?_ | refine ko jc ?_ | refine ko jp ?_ | refine jM ?_ | refine kr ?_ | refine ko rfl ?_ | refine And.intro (cs_shal _) ?_ | refine And.intro (rfl : List.all _ _ = true) ?_ | refine And.intro ⟨rfl, (rfl : List.all _ _ = true)⟩ ?_ | exact ⟨rfl, rfl⟩ | exact jV | fail))
      refine ⟨⟨i + 1, by omega, by omega⟩, by simp only; omega, ?_⟩
      dsimp only
      exact jw []
    · obtain rfl : i = l.length := by omega
      have e : cnt (List.length) (l.take l.length) = cnt (List.length) l := by rw [List.take_length]
      repeat' ((conv => whnf); (first | refine k0 ?_ | refine jA fun _ => ?_ | refine jB fun _ => ?_ | refine kC (fun _ => ?_) fun _ => ?_ | refine jS ?_ | refine jI ?_ | (apply cx122; refine kl tx122 ?_) | refine jD ?_ | refine ⟨snc, _, snr, ?_⟩ | refine ⟨⟨Nat.le_refl _, rfl⟩, [], rfl, ?_⟩ | refine And.intro ⟨rfl, rfl, by decide, rfl⟩ ?_ | refine jP ?_ | refine jO ?_ | refine jX ?_ | refine jb jr ?_ | refine jb ofs ?_ | refine ko jc ?_ | refine ko jp ?_ | refine jM ?_ | refine kr ?_ | refine ko rfl ?_ | refine And.intro (cs_shal _) ?_ | refine And.intro (rfl : List.all _ _ = true) ?_ | refine And.intro ⟨rfl, (rfl : List.all _ _ = true)⟩ ?_ | exact ⟨rfl, rfl⟩ | exact jV | fail))

theorem cx75 {P : Program} {X : FuncId → List Arg → List (Bool × List Cell) → List (Option (List Cell)) → Prop} {a : List Arg} {Q : List (Bool × List Cell) → List (Option (List Cell)) → Prop} (h : ∃ b vals outs, a = b ∧ D P X (.call 75 b vals outs) ∧ Q vals outs) : CallS P X 75 a Q := ⟨h⟩

set_option maxRecDepth 100000 in
theorem tx146 {l : List ByteArray} {n : Int} (hn : 0 ≤ n ∧ n ≤ 1000000000000 := by first | assumption | omega | (simp; done) | (simp; omega)) (hl : l.length ≤ 100000000000000 := by first | assumption | omega | (simp; done) | (simp; omega)) (hel : ∀ x ∈ l, x.size ≤ 1000000000000000 := by assumption) : T 146 [aE l, aI n] [vI (if n < ((l.length + cnt (ByteArray.size) l : Nat) : Int) then -1 else n - ((l.length + cnt (ByteArray.size) l : Nat) : Int))] [none, none] := by
  refine w_call md [] Tryz.func146 rfl ?_
  repeat' ((conv => whnf); (first | refine k0 ?_ | refine jA fun _ => ?_ | refine jB fun _ => ?_ | refine kC (fun _ => ?_) fun _ => ?_ | refine jS ?_ | refine jI ?_ | refine jD ?_ | refine ⟨snc, _, snr, ?_⟩ | refine ⟨⟨Nat.le_refl _, rfl⟩, [], rfl, ?_⟩ | refine And.intro ⟨rfl, rfl, by decide, rfl⟩ ?_ | refine jP ?_ | refine jO ?_ | refine jX ?_ | refine jb jr ?_ | refine jb ofs ?_ | refine ko jc ?_ | refine ko jp ?_ | refine jM ?_ | refine kr ?_ | refine ko rfl ?_ | refine And.intro (cs_shal _) ?_ | refine And.intro (rfl : List.all _ _ = true) ?_ | refine And.intro ⟨rfl, (rfl : List.all _ _ = true)⟩ ?_ | exact ⟨rfl, rfl⟩ | exact jV | fail))
  conv => whnf
  refine loopk (ι := Nat) (fun i => i ≤ l.length ∧ (l.length + cnt (ByteArray.size) (l.take i) : Nat) ≤ n) (fun i => l.length - i) (0) [0] (fun i => [(1, .v false [i6 (n - (l.length + cnt (ByteArray.size) (l.take i) : Nat))]), (5, .v false [i6 i])]) [none, none] ?_
  refine ⟨⟨by omega, by simp [cnt]; omega⟩, ?_, fun i hi => ?_⟩
  · exact w_autoX [] (by (conv => whnf); exact And.intro (by kernel_rfl) (And.intro (by kernel_rfl) (by repeat' (first | (with_reducible exact rfl) | ((conv => whnf); first | exact trivial | exact tvi (by simp [cnt]) | exact rfl | exact tvi (by first | omega | (dsimp only; omega) | (simp; done)) | exact tvr (by first | omega | (dsimp only; omega) | (simp; done) | (simp; omega)) | exact ⟨rfl, clo_i, by first | rfl | rw [List.take_length] | assumption⟩ | refine And.intro ?_ ?_)))))
  · have hle := cnt_le (c := ByteArray.size) (xs := l) (i := i)
    refine ⟨fun hlt => ?_, fun hge => ?_⟩
    · have hi2 : i < l.length := by omega
      have hc := cnt_take (c := ByteArray.size) hi2
      have hle2 := cnt_le (c := ByteArray.size) (xs := l) (i := i + 1)
      have he := hel _ (List.getElem_mem hi2)
      try dsimp only at hc he
      repeat' ((conv => whnf); (first | refine k0 ?_ | refine jA fun _ => ?_ | refine jB fun _ => ?_ | refine kC (fun _ => ?_) fun _ => ?_ | refine jS ?_ | refine jI ?_ | refine jD ?_ | refine ⟨snc, _, snr, ?_⟩ | refine ⟨⟨Nat.le_refl _, rfl⟩, [], rfl, ?_⟩ | refine And.intro ⟨rfl, rfl, by decide, rfl⟩ ?_ | refine jP ?_ | refine jO ?_ | refine jX ?_ | refine jb jr ?_ | refine jb ofs ?_ | refine ko jc ?_ | refine ko jp ?_ | refine jM ?_ | refine kr ?_ | refine ko rfl ?_ | refine And.intro (cs_shal _) ?_ | refine And.intro (rfl : List.all _ _ = true) ?_ | refine And.intro ⟨rfl, (rfl : List.all _ _ = true)⟩ ?_ | exact ⟨rfl, rfl⟩ | exact jV | fail))
      refine ⟨⟨i + 1, by omega, by omega⟩, by simp only; omega, ?_⟩
      dsimp only
      exact jw []
    · obtain rfl : i = l.length := by omega
      have e : cnt (ByteArray.size) (l.take l.length) = cnt (ByteArray.size) l := by rw [List.take_length]
      repeat' ((conv => whnf); (first | refine k0 ?_ | refine jA fun _ => ?_ | refine jB fun _ => ?_ | refine kC (fun _ => ?_) fun _ => ?_ | refine jS ?_ | refine jI ?_ | refine jD ?_ | refine ⟨snc, _, snr, ?_⟩ | refine ⟨⟨Nat.le_refl _, rfl⟩, [], rfl, ?_⟩ | refine And.intro ⟨rfl, rfl, by decide, rfl⟩ ?_ | refine jP ?_ | refine jO ?_ | refine jX ?_ | refine jb jr ?_ | refine jb ofs ?_ | refine ko jc ?_ | refine ko jp ?_ | refine jM ?_ | refine kr ?_ | refine ko rfl ?_ | refine And.intro (cs_shal _) ?_ | refine And.intro (rfl : List.all _ _ = true) ?_ | refine And.intro ⟨rfl, (rfl : List.all _ _ = true)⟩ ?_ | exact ⟨rfl, rfl⟩ | exact jV | fail))

theorem cx146 {P : Program} {X : FuncId → List Arg → List (Bool × List Cell) → List (Option (List Cell)) → Prop} {a : List Arg} {Q : List (Bool × List Cell) → List (Option (List Cell)) → Prop} (h : ∃ b vals outs, a = b ∧ D P X (.call 146 b vals outs) ∧ Q vals outs) : CallS P X 146 a Q := ⟨h⟩

set_option maxRecDepth 100000 in
theorem tx76 {l : List Wri} {n : Int} (hn : 0 ≤ n ∧ n ≤ 1000000000000 := by first | assumption | omega | (simp; done) | (simp; omega)) (hl : l.length ≤ 100000000000000 := by first | assumption | omega | (simp; done) | (simp; omega)) (hel : ∀ x ∈ l, x.b.length ≤ 1000000000000000 := by assumption) : T 76 [aE l, aI n] [vI (if n < ((l.length + cnt (fun w : Wri => w.b.length) l : Nat) : Int) then -1 else n - ((l.length + cnt (fun w : Wri => w.b.length) l : Nat) : Int))] [none, none] := by
  refine w_call md [] Tryz.func76 rfl ?_
  repeat' ((conv => whnf); (first | refine k0 ?_ | refine jA fun _ => ?_ | refine jB fun _ => ?_ | refine kC (fun _ => ?_) fun _ => ?_ | refine jS ?_ | refine jI ?_ | (apply cx123; refine kl tx123 ?_) | refine jD ?_ | refine ⟨snc, _, snr, ?_⟩ | refine ⟨⟨Nat.le_refl _, rfl⟩, [], rfl, ?_⟩ | refine And.intro ⟨rfl, rfl, by decide, rfl⟩ ?_ | refine jP ?_ | refine jO ?_ | refine jX ?_ | refine jb jr ?_ | refine jb ofs ?_ | refine ko jc ?_ | refine ko jp ?_ | refine jM ?_ | refine kr ?_ | refine ko rfl ?_ | refine And.intro (cs_shal _) ?_ | refine And.intro (rfl : List.all _ _ = true) ?_ | refine And.intro ⟨rfl, (rfl : List.all _ _ = true)⟩ ?_ | exact ⟨rfl, rfl⟩ | exact jV | fail))
  conv => whnf
  refine loopk (ι := Nat) (fun i => i ≤ l.length ∧ (l.length + cnt (fun w : Wri => w.b.length) (l.take i) : Nat) ≤ n) (fun i => l.length - i) (0) [0] (fun i => [(1, .v false [i6 (n - (l.length + cnt (fun w : Wri => w.b.length) (l.take i) : Nat))]), (5, .v false [i6 i])]) [none, none] ?_
  refine ⟨⟨by omega, by simp [cnt]; omega⟩, ?_, fun i hi => ?_⟩
  · exact w_autoX [] (by (conv => whnf); exact And.intro (by kernel_rfl) (And.intro (by kernel_rfl) (by repeat' (first | (with_reducible exact rfl) | ((conv => whnf); first | exact trivial | exact tvi (by simp [cnt]) | exact rfl | exact tvi (by first | omega | (dsimp only; omega) | (simp; done)) | exact tvr (by first | omega | (dsimp only; omega) | (simp; done) | (simp; omega)) | exact ⟨rfl, clo_i, by first | rfl | rw [List.take_length] | assumption⟩ | refine And.intro ?_ ?_)))))
  · have hle := cnt_le (c := fun w : Wri => w.b.length) (xs := l) (i := i)
    refine ⟨fun hlt => ?_, fun hge => ?_⟩
    · have hi2 : i < l.length := by omega
      have hc := cnt_take (c := fun w : Wri => w.b.length) hi2
      have hle2 := cnt_le (c := fun w : Wri => w.b.length) (xs := l) (i := i + 1)
      have he := hel _ (List.getElem_mem hi2)
      try dsimp only at hc he
      repeat' ((conv => whnf); (first | refine k0 ?_ | refine jA fun _ => ?_ | refine jB fun _ => ?_ | refine kC (fun _ => ?_) fun _ => ?_ | refine jS ?_ | refine jI ?_ | (apply cx123; refine kl tx123 ?_) | refine jD ?_ | refine ⟨snc, _, snr, ?_⟩ | refine ⟨⟨Nat.le_refl _, rfl⟩, [], rfl, ?_⟩ | refine And.intro ⟨rfl, rfl, by decide, rfl⟩ ?_ | refine jP ?_ | refine jO ?_ | refine jX ?_ | refine jb jr ?_ | refine jb ofs ?_ | refine ko jc ?_ | refine ko jp ?_ | refine jM ?_ | refine kr ?_ | refine ko rfl ?_ | refine And.intro (cs_shal _) ?_ | refine And.intro (rfl : List.all _ _ = true) ?_ | refine And.intro ⟨rfl, (rfl : List.all _ _ = true)⟩ ?_ | exact ⟨rfl, rfl⟩ | exact jV | fail))
      refine ⟨⟨i + 1, by omega, by omega⟩, by simp only; omega, ?_⟩
      dsimp only
      exact jw []
    · obtain rfl : i = l.length := by omega
      have e : cnt (fun w : Wri => w.b.length) (l.take l.length) = cnt (fun w : Wri => w.b.length) l := by rw [List.take_length]
      repeat' ((conv => whnf); (first | refine k0 ?_ | refine jA fun _ => ?_ | refine jB fun _ => ?_ | refine kC (fun _ => ?_) fun _ => ?_ | refine jS ?_ | refine jI ?_ | (apply cx123; refine kl tx123 ?_) | refine jD ?_ | refine ⟨snc, _, snr, ?_⟩ | refine ⟨⟨Nat.le_refl _, rfl⟩, [], rfl, ?_⟩ | refine And.intro ⟨rfl, rfl, by decide, rfl⟩ ?_ | refine jP ?_ | refine jO ?_ | refine jX ?_ | refine jb jr ?_ | refine jb ofs ?_ | refine ko jc ?_ | refine ko jp ?_ | refine jM ?_ | refine kr ?_ | refine ko rfl ?_ | refine And.intro (cs_shal _) ?_ | refine And.intro (rfl : List.all _ _ = true) ?_ | refine And.intro ⟨rfl, (rfl : List.all _ _ = true)⟩ ?_ | exact ⟨rfl, rfl⟩ | exact jV | fail))

theorem cx76 {P : Program} {X : FuncId → List Arg → List (Bool × List Cell) → List (Option (List Cell)) → Prop} {a : List Arg} {Q : List (Bool × List Cell) → List (Option (List Cell)) → Prop} (h : ∃ b vals outs, a = b ∧ D P X (.call 76 b vals outs) ∧ Q vals outs) : CallS P X 76 a Q := ⟨h⟩

set_option maxRecDepth 100000 in
theorem tx124 {x : Nod} {n : Int} (hn : 0 ≤ n ∧ n ≤ 1000000000000 := by first | assumption | omega | (simp; done) | (simp; omega)) (hx : BdN x := by first | assumption | omega | (simp; done) | (simp; omega)) : T 124 [.val true (nodC false x), aI n] [vI (if n < ((zN x : Nat) : Int) then -1 else n - ((zN x : Nat) : Int))] [none, none] := by
  refine w_call md [] Tryz.func124 rfl ?_
  obtain ⟨h1, h2, h3, h4, h5⟩ := hx
  unfold zN zSS
  repeat' ((conv => whnf); (first | refine k0 ?_ | refine jA fun _ => ?_ | refine jB fun _ => ?_ | refine kC (fun _ => ?_) fun _ => ?_ | refine jS ?_ | refine jI ?_ | (apply cx146; refine kl tx146 ?_) | (apply cx147; refine kl tx147 ?_) | refine jD ?_ | refine ⟨snc, _, snr, ?_⟩ | refine ⟨⟨Nat.le_refl _, rfl⟩, [], rfl, ?_⟩ | refine And.intro ⟨rfl, rfl, by decide, rfl⟩ ?_ | refine jP ?_ | refine jO ?_ | refine jX ?_ | refine jb jr ?_ | refine jb ofs ?_ | refine ko jc ?_ | refine ko jp ?_ | refine jM ?_ | refine kr ?_ | refine ko rfl ?_ | refine And.intro (cs_shal _) ?_ | refine And.intro (rfl : List.all _ _ = true) ?_ | refine And.intro ⟨rfl, (rfl : List.all _ _ = true)⟩ ?_ | exact ⟨rfl, rfl⟩ | exact jV | fail))

theorem cx124 {P : Program} {X : FuncId → List Arg → List (Bool × List Cell) → List (Option (List Cell)) → Prop} {a : List Arg} {Q : List (Bool × List Cell) → List (Option (List Cell)) → Prop} (h : ∃ b vals outs, a = b ∧ D P X (.call 124 b vals outs) ∧ Q vals outs) : CallS P X 124 a Q := ⟨h⟩

set_option maxRecDepth 100000 in
theorem tx78 {f : Fre} {n : Int} (hn : 0 ≤ n ∧ n ≤ 1000000000000 := by first | assumption | omega | (simp; done) | (simp; omega)) (hx : BdN f.x := by first | assumption | omega | (simp; done) | (simp; omega)) : T 78 [.val true (freC false f), aI n] [vI (if n < ((zN f.x : Nat) : Int) then -1 else n - ((zN f.x : Nat) : Int))] [none, none] := by
  refine w_call md [] Tryz.func78 rfl ?_
  repeat' ((conv => whnf); (first | refine k0 ?_ | refine jA fun _ => ?_ | refine jB fun _ => ?_ | refine kC (fun _ => ?_) fun _ => ?_ | refine jS ?_ | refine jI ?_ | (apply cx124; refine kl tx124 ?_) | refine jD ?_ | refine ⟨snc, _, snr, ?_⟩ | refine ⟨⟨Nat.le_refl _, rfl⟩, [], rfl, ?_⟩ | refine And.intro ⟨rfl, rfl, by decide, rfl⟩ ?_ | refine jP ?_ | refine jO ?_ | refine jX ?_ | refine jb jr ?_ | refine jb ofs ?_ | refine ko jc ?_ | refine ko jp ?_ | refine jM ?_ | refine kr ?_ | refine ko rfl ?_ | refine And.intro (cs_shal _) ?_ | refine And.intro (rfl : List.all _ _ = true) ?_ | refine And.intro ⟨rfl, (rfl : List.all _ _ = true)⟩ ?_ | exact ⟨rfl, rfl⟩ | exact jV | fail))

theorem cx78 {P : Program} {X : FuncId → List Arg → List (Bool × List Cell) → List (Option (List Cell)) → Prop} {a : List Arg} {Q : List (Bool × List Cell) → List (Option (List Cell)) → Prop} (h : ∃ b vals outs, a = b ∧ D P X (.call 78 b vals outs) ∧ Q vals outs) : CallS P X 78 a Q := ⟨h⟩

set_option maxRecDepth 100000 in
theorem tx29 {l : List Fre} {n : Int} (hn : 0 ≤ n ∧ n ≤ 1000000000000 := by first | assumption | omega | (simp; done) | (simp; omega)) (hl : l.length ≤ 100000000000000 := by first | assumption | omega | (simp; done) | (simp; omega)) (hel : ∀ x ∈ l, BdN x.x := by assumption) : T 29 [aE l, aI n] [vI (if n < ((l.length + cnt (fun f : Fre => zN f.x) l : Nat) : Int) then -1 else n - ((l.length + cnt (fun f : Fre => zN f.x) l : Nat) : Int))] [none, none] := by
  refine w_call md [] Tryz.func29 rfl ?_
  repeat' ((conv => whnf); (first | refine k0 ?_ | refine jA fun _ => ?_ | refine jB fun _ => ?_ | refine kC (fun _ => ?_) fun _ => ?_ | refine jS ?_ | refine jI ?_ | (apply cx78; refine kl tx78 ?_) | refine jD ?_ | refine ⟨snc, _, snr, ?_⟩ | refine ⟨⟨Nat.le_refl _, rfl⟩, [], rfl, ?_⟩ | refine And.intro ⟨rfl, rfl, by decide, rfl⟩ ?_ | refine jP ?_ | refine jO ?_ | refine jX ?_ | refine jb jr ?_ | refine jb ofs ?_ | refine ko jc ?_ | refine ko jp ?_ | refine jM ?_ | refine kr ?_ | refine ko rfl ?_ | refine And.intro (cs_shal _) ?_ | refine And.intro (rfl : List.all _ _ = true) ?_ | refine And.intro ⟨rfl, (rfl : List.all _ _ = true)⟩ ?_ | exact ⟨rfl, rfl⟩ | exact jV | fail))
  conv => whnf
  refine loopk (ι := Nat) (fun i => i ≤ l.length ∧ (l.length + cnt (fun f : Fre => zN f.x) (l.take i) : Nat) ≤ n) (fun i => l.length - i) (0) [0] (fun i => [(1, .v false [i6 (n - (l.length + cnt (fun f : Fre => zN f.x) (l.take i) : Nat))]), (5, .v false [i6 i])]) [none, none] ?_
  refine ⟨⟨by omega, by simp [cnt]; omega⟩, ?_, fun i hi => ?_⟩
  · exact w_autoX [] (by (conv => whnf); exact And.intro (by kernel_rfl) (And.intro (by kernel_rfl) (by repeat' (first | (with_reducible exact rfl) | ((conv => whnf); first | exact trivial | exact tvi (by simp [cnt]) | exact rfl | exact tvi (by first | omega | (dsimp only; omega) | (simp; done)) | exact tvr (by first | omega | (dsimp only; omega) | (simp; done) | (simp; omega)) | exact ⟨rfl, clo_i, by first | rfl | rw [List.take_length] | assumption⟩ | refine And.intro ?_ ?_)))))
  · have hle := cnt_le (c := fun f : Fre => zN f.x) (xs := l) (i := i)
    refine ⟨fun hlt => ?_, fun hge => ?_⟩
    · have hi2 : i < l.length := by omega
      have hc := cnt_take (c := fun f : Fre => zN f.x) hi2
      have hle2 := cnt_le (c := fun f : Fre => zN f.x) (xs := l) (i := i + 1)
      have he := hel _ (List.getElem_mem hi2)
      try dsimp only at hc
      repeat' ((conv => whnf); (first | refine k0 ?_ | refine jA fun _ => ?_ | refine jB fun _ => ?_ | refine kC (fun _ => ?_) fun _ => ?_ | refine jS ?_ | refine jI ?_ | (apply cx78; refine kl tx78 ?_) | refine jD ?_ | refine ⟨snc, _, snr, ?_⟩ | refine ⟨⟨Nat.le_refl _, rfl⟩, [], rfl, ?_⟩ | refine And.intro ⟨rfl, rfl, by decide, rfl⟩ ?_ | refine jP ?_ | refine jO ?_ | refine jX ?_ | refine jb jr ?_ | refine jb ofs ?_ | refine ko jc ?_ | refine ko jp ?_ | refine jM ?_ | refine kr ?_ | refine ko rfl ?_ | refine And.intro (cs_shal _) ?_ | refine And.intro (rfl : List.all _ _ = true) ?_ | refine And.intro ⟨rfl, (rfl : List.all _ _ = true)⟩ ?_ | exact ⟨rfl, rfl⟩ | exact jV | fail))
      refine ⟨⟨i + 1, by omega, by omega⟩, by simp only; omega, ?_⟩
      dsimp only
      exact jw []
    · obtain rfl : i = l.length := by omega
      have e : cnt (fun f : Fre => zN f.x) (l.take l.length) = cnt (fun f : Fre => zN f.x) l := by rw [List.take_length]
      repeat' ((conv => whnf); (first | refine k0 ?_ | refine jA fun _ => ?_ | refine jB fun _ => ?_ | refine kC (fun _ => ?_) fun _ => ?_ | refine jS ?_ | refine jI ?_ | (apply cx78; refine kl tx78 ?_) | refine jD ?_ | refine ⟨snc, _, snr, ?_⟩ | refine ⟨⟨Nat.le_refl _, rfl⟩, [], rfl, ?_⟩ | refine And.intro ⟨rfl, rfl, by decide, rfl⟩ ?_ | refine jP ?_ | refine jO ?_ | refine jX ?_ | refine jb jr ?_ | refine jb ofs ?_ | refine ko jc ?_ | refine ko jp ?_ | refine jM ?_ | refine kr ?_ | refine ko rfl ?_ | refine And.intro (cs_shal _) ?_ | refine And.intro (rfl : List.all _ _ = true) ?_ | refine And.intro ⟨rfl, (rfl : List.all _ _ = true)⟩ ?_ | exact ⟨rfl, rfl⟩ | exact jV | fail))

theorem cx29 {P : Program} {X : FuncId → List Arg → List (Bool × List Cell) → List (Option (List Cell)) → Prop} {a : List Arg} {Q : List (Bool × List Cell) → List (Option (List Cell)) → Prop} (h : ∃ b vals outs, a = b ∧ D P X (.call 29 b vals outs) ∧ Q vals outs) : CallS P X 29 a Q := ⟨h⟩

set_option maxRecDepth 100000 in
theorem tx28 {d : Dsk} {n : Int} (hn : 0 ≤ n ∧ n ≤ 1000000000000 := by first | assumption | omega | (simp; done) | (simp; omega)) (hd : BdD d := by first | assumption | omega | (simp; done) | (simp; omega)) : T 28 [.val true (dskC false d), aI n] [vI (if n < ((zD d : Nat) : Int) then -1 else n - ((zD d : Nat) : Int))] [none, none] := by
  refine w_call md [] Tryz.func28 rfl ?_
  obtain ⟨h1, h2, h3, h4, h5⟩ := hd
  unfold zD zBS zWS
  repeat' ((conv => whnf); (first | refine k0 ?_ | refine jA fun _ => ?_ | refine jB fun _ => ?_ | refine kC (fun _ => ?_) fun _ => ?_ | refine jS ?_ | refine jI ?_ | (apply cx75; refine kl tx75 ?_) | (apply cx76; refine kl tx76 ?_) | (apply cx77; refine kl tx77 ?_) | refine jD ?_ | refine ⟨snc, _, snr, ?_⟩ | refine ⟨⟨Nat.le_refl _, rfl⟩, [], rfl, ?_⟩ | refine And.intro ⟨rfl, rfl, by decide, rfl⟩ ?_ | refine jP ?_ | refine jO ?_ | refine jX ?_ | refine jb jr ?_ | refine jb ofs ?_ | refine ko jc ?_ | refine ko jp ?_ | refine jM ?_ | refine kr ?_ | refine ko rfl ?_ | refine And.intro (cs_shal _) ?_ | refine And.intro (rfl : List.all _ _ = true) ?_ | refine And.intro ⟨rfl, (rfl : List.all _ _ = true)⟩ ?_ | exact ⟨rfl, rfl⟩ | exact jV | fail))

theorem cx28 {P : Program} {X : FuncId → List Arg → List (Bool × List Cell) → List (Option (List Cell)) → Prop} {a : List Arg} {Q : List (Bool × List Cell) → List (Option (List Cell)) → Prop} (h : ∃ b vals outs, a = b ∧ D P X (.call 28 b vals outs) ∧ Q vals outs) : CallS P X 28 a Q := ⟨h⟩

set_option maxRecDepth 100000 in
theorem tx7 {t : Txn} {n : Int} (hn : 0 ≤ n ∧ n ≤ 1000000000000 := by first | assumption | omega | (simp; done) | (simp; omega)) (ht : BdT t := by first | assumption | omega | (simp; done) | (simp; omega)) : T 7 [.val true (txnC false t), aI n] [vI (if n < ((zT t : Nat) : Int) then -1 else n - ((zT t : Nat) : Int))] [none, none] := by
  refine w_call md [] Tryz.func7 rfl ?_
  obtain ⟨h1, h2, h3⟩ := ht
  unfold zT zFrS
  repeat' ((conv => whnf); (first | (apply cx28; refine kl (tx28 (d := t.d)) ?_) | refine k0 ?_ | refine jA fun _ => ?_ | refine jB fun _ => ?_ | refine kC (fun _ => ?_) fun _ => ?_ | refine jS ?_ | refine jI ?_ | (apply cx28; refine kl tx28 ?_) | (apply cx29; refine kl tx29 ?_) | refine jD ?_ | refine ⟨snc, _, snr, ?_⟩ | refine ⟨⟨Nat.le_refl _, rfl⟩, [], rfl, ?_⟩ | refine And.intro ⟨rfl, rfl, by decide, rfl⟩ ?_ | refine jP ?_ | refine jO ?_ | refine jX ?_ | refine jb jr ?_ | refine jb ofs ?_ | refine ko jc ?_ | refine ko jp ?_ | refine jM ?_ | refine kr ?_ | refine ko rfl ?_ | refine And.intro (cs_shal _) ?_ | refine And.intro (rfl : List.all _ _ = true) ?_ | refine And.intro ⟨rfl, (rfl : List.all _ _ = true)⟩ ?_ | exact ⟨rfl, rfl⟩ | exact jV | fail))

theorem cx7 {P : Program} {X : FuncId → List Arg → List (Bool × List Cell) → List (Option (List Cell)) → Prop} {a : List Arg} {Q : List (Bool × List Cell) → List (Option (List Cell)) → Prop} (h : ∃ b vals outs, a = b ∧ D P X (.call 7 b vals outs) ∧ Q vals outs) : CallS P X 7 a Q := ⟨h⟩

end Go.Proofs.YtkggnekdjdnhiaaGreat
