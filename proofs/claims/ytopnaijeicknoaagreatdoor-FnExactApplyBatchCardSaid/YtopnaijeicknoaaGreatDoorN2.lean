/- Functions of the program, each with what it gives back. -/
import Derived.Test.YtopnaijeicknoaaGreatDoorKe
import Derived.Test.YtopnaijeicknoaaGreatDoorChecked
import Derived.IntWalk
import Derived.Test.YtopnaijeicknoaaGreatDoorMw
namespace Go.Proofs.YtopnaijeicknoaaGreatDoor
open Go Go.RowKit Go.IntWalk
open Enc (sz cs)
attribute [local irreducible] IntKind.wrap

set_option maxRecDepth 100000 in
theorem t_laws_toDefSF {l : List Df} (hl : l.length ≤ 10000000 := by first | assumption | omega | (simp; done) | (simp; omega)) (hel : ∀ x ∈ l, OkDf x := by assumption) : T 9 [aE l] [(false, [slE false l])] [none] := by
  refine w_call md [] Tryz.func9 rfl ?_
  repeat' ((conv => whnf); (first | refine k0 ?_ | refine jA fun _ => ?_ | refine jB fun _ => ?_ | refine kC (fun _ => ?_) fun _ => ?_ | (apply cx33; refine kl tx33 ?_) | refine jst ?_ | exact ⟨rfl, rfl⟩ | exact jV | fail))
  conv => whnf
  refine loopk (ι := Nat) (fun i => i ≤ l.length) (fun i => l.length - i) (0) [0, 3] (fun i => [(4, .v false [i6 i])]) [none, some fun i => some (true, cs true (l.take i) ++ zerosT [s1 ⟨#[]⟩, .nil, .nil, .nil] (l.length - i))] ?_
  refine ⟨by omega, ?_, fun i hi => ?_⟩
  · exact jw []
  · refine ⟨fun hlt => ?_, fun hge => ?_⟩
    · have hi2 : i < l.length := by omega
      have he := hel _ (List.getElem_mem hi2)
      repeat refine k0 ?_
      repeat' ((conv => whnf); (first | refine ⟨_, ptz (by omega) (by omega), ?_⟩ | refine jA fun _ => ?_ | refine jB fun _ => ?_ | refine kC (fun _ => ?_) fun _ => ?_ | (apply cx33; refine kl tx33 ?_) | refine jst ?_ | exact ⟨rfl, rfl⟩ | exact jV | fail))
      conv => whnf
      refine bstep (w_inE 1 2 (cs true (l.take i) ++ [s1 l[i].name]) l[i].cols ([.ref 3 0 l[i].prim.length 2, .ref 4 0 l[i].idx.length 3] ++ zerosT [s1 ⟨#[]⟩, .nil, .nil, .nil] (l.length - (i + 1))) l[i].cols.length 3 (rfl)) ?_
      conv => whnf
      refine bstep (w_inE 1 3 (cs true (l.take i) ++ [s1 l[i].name, slE true l[i].cols]) l[i].prim ([.ref 4 0 l[i].idx.length 3] ++ zerosT [s1 ⟨#[]⟩, .nil, .nil, .nil] (l.length - (i + 1))) l[i].prim.length 2 (rfl)) ?_
      conv => whnf
      refine bstep (w_inE 1 4 (cs true (l.take i) ++ [s1 l[i].name, slE true l[i].cols, slE true l[i].prim]) l[i].idx (zerosT [s1 ⟨#[]⟩, .nil, .nil, .nil] (l.length - (i + 1))) l[i].idx.length 3 (fil2 hi2 rfl)) ?_
      repeat' ((conv => whnf); (first | refine k0 ?_ | refine jA fun _ => ?_ | refine jB fun _ => ?_ | refine kC (fun _ => ?_) fun _ => ?_ | (apply cx33; refine kl tx33 ?_) | refine jst ?_ | exact ⟨rfl, rfl⟩ | exact jV | fail))
      refine ⟨⟨i + 1, by omega⟩, by simp only; omega, ?_⟩
      exact jw []
    · have e : cs true (l.take i) ++ zerosT [s1 ⟨#[]⟩, .nil, .nil, .nil] (l.length - i) = cs true l := fil_all (by omega) (by omega)
      have hro : roifyL (cs true (l.take i) ++ zerosT [s1 ⟨#[]⟩, .nil, .nil, .nil] (l.length - i)) = cs false l := by rw [e]; exact cs_ro l
      repeat' ((conv => whnf); (first | refine bstep (w_freeze 1 rfl hro) ?_ | refine ⟨snc, cs false l, cs_whole, ?_⟩ | refine k0 ?_ | refine jA fun _ => ?_ | refine jB fun _ => ?_ | refine kC (fun _ => ?_) fun _ => ?_ | (apply cx33; refine kl tx33 ?_) | refine jst ?_ | exact ⟨rfl, rfl⟩ | exact jV | fail))

set_option maxRecDepth 100000 in
theorem t_laws_toMdbF {m : List (List (List Vl))} (hl : m.length ≤ 10000000 := by first | assumption | omega | (simp; done) | (simp; omega)) (hm : ∀ x ∈ m, OkTb x := by first | assumption | omega | (simp; done) | (simp; omega)) : T 10 [.val true [slE false m]] [(true, [slE false m])] [none] := by
  refine w_call md [] Tryz.func10 rfl ?_
  repeat' ((conv => whnf); (first | refine bstep (w_frz 4 (m)) ?_ | refine ⟨snc, cs false m, cs_whole, ?_⟩ | refine k0 ?_ | refine jA fun _ => ?_ | refine jB fun _ => ?_ | refine kC (fun _ => ?_) fun _ => ?_ | (apply cx34; refine kl tx34 ?_) | refine jst ?_ | exact ⟨rfl, rfl⟩ | exact jV | fail))

set_option maxRecDepth 100000 in
theorem t_laws_toOpF {x : Opn} (hx : x.row.length ≤ 10000000 := by first | assumption | omega | (simp; done) | (simp; omega)) : T 16 [.val true (opC false x)] [(true, opC false x)] [none] := by
  refine w_call md [] Tryz.func16 rfl ?_
  repeat' ((conv => whnf); (first | refine bstep (w_frz 4 (x.row)) ?_ | refine ⟨snc, cs false x.row, cs_whole, ?_⟩ | refine k0 ?_ | refine jA fun _ => ?_ | refine jB fun _ => ?_ | refine kC (fun _ => ?_) fun _ => ?_ | (apply cx47; refine kl tx47 ?_) | refine jst ?_ | exact ⟨rfl, rfl⟩ | exact jV | fail))

set_option maxRecDepth 100000 in
theorem t_laws_toOpSF {l : List Opn} (hl : l.length ≤ 10000000 := by first | assumption | omega | (simp; done) | (simp; omega)) (hel : ∀ x ∈ l, x.row.length ≤ 10000000 := by assumption) : T 25 [aE l] [(false, [slE false l])] [none] := by
  refine w_call md [] Tryz.func25 rfl ?_
  repeat' ((conv => whnf); (first | refine k0 ?_ | refine jA fun _ => ?_ | refine jB fun _ => ?_ | refine kC (fun _ => ?_) fun _ => ?_ | (apply cx16; refine kl tx16 ?_) | refine jst ?_ | exact ⟨rfl, rfl⟩ | exact jV | fail))
  conv => whnf
  refine loopk (ι := Nat) (fun i => i ≤ l.length) (fun i => l.length - i) (0) [0, 3] (fun i => [(4, .v false [i6 i])]) [none, some fun i => some (true, cs true (l.take i) ++ zerosT [i6 0, i6 0, .nil] (l.length - i))] ?_
  refine ⟨by omega, ?_, fun i hi => ?_⟩
  · exact jw []
  · refine ⟨fun hlt => ?_, fun hge => ?_⟩
    · have hi2 : i < l.length := by omega
      have he := hel _ (List.getElem_mem hi2)
      repeat refine k0 ?_
      repeat' ((conv => whnf); (first | refine ⟨_, ptz (by omega) (by omega), ?_⟩ | refine jA fun _ => ?_ | refine jB fun _ => ?_ | refine kC (fun _ => ?_) fun _ => ?_ | (apply cx16; refine kl tx16 ?_) | refine jst ?_ | exact ⟨rfl, rfl⟩ | exact jV | fail))
      conv => whnf
      refine bstep (w_inE 1 2 (cs true (l.take i) ++ [i6 l[i].kind, i6 l[i].t]) l[i].row (zerosT [i6 0, i6 0, .nil] (l.length - (i + 1))) l[i].row.length 3 (fil2 hi2 rfl)) ?_
      repeat' ((conv => whnf); (first | refine k0 ?_ | refine jA fun _ => ?_ | refine jB fun _ => ?_ | refine kC (fun _ => ?_) fun _ => ?_ | (apply cx16; refine kl tx16 ?_) | refine jst ?_ | exact ⟨rfl, rfl⟩ | exact jV | fail))
      refine ⟨⟨i + 1, by omega⟩, by simp only; omega, ?_⟩
      exact jw []
    · have e : cs true (l.take i) ++ zerosT [i6 0, i6 0, .nil] (l.length - i) = cs true l := fil_all (by omega) (by omega)
      have hro : roifyL (cs true (l.take i) ++ zerosT [i6 0, i6 0, .nil] (l.length - i)) = cs false l := by rw [e]; exact cs_ro l
      repeat' ((conv => whnf); (first | refine bstep (w_freeze 1 rfl hro) ?_ | refine ⟨snc, cs false l, cs_whole, ?_⟩ | refine k0 ?_ | refine jA fun _ => ?_ | refine jB fun _ => ?_ | refine kC (fun _ => ?_) fun _ => ?_ | (apply cx16; refine kl tx16 ?_) | refine jst ?_ | exact ⟨rfl, rfl⟩ | exact jV | fail))

end Go.Proofs.YtopnaijeicknoaaGreatDoor
