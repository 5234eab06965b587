/- Functions of the program, each with what it gives back. -/
import Derived.Test.YtacfohamlkbpjaaGreatKe
import Derived.Test.YtacfohamlkbpjaaGreatChecked
import Derived.IntWalk
import Derived.Test.YtacfohamlkbpjaaGreatFi
namespace Go.Proofs.YtacfohamlkbpjaaGreat
open Go Go.RowKit Go.IntWalk
open Enc (sz cs)
attribute [local irreducible] IntKind.wrap

attribute [local irreducible] gU gT gS gP gM ptP ptM ptS crcN rdS
theorem gM_out {d : Dsk} {n : Int} (h : (rdS d n).2 = false) : (gM (rdS d n).1).2 = false := by rw [rdS_bad h]; exact gM_nil

theorem rep_nils (q : Nat) : List.replicate q (Cell.sl true 0 1 []) = cs true (List.replicate q ([] : List UInt8)) := by
  show _ = (List.replicate q ([] : List UInt8)).map _
  rw [List.map_replicate]; rfl
theorem rep_snoc (q : Nat) : cs true (List.replicate q ([] : List UInt8)) ++ [slE true ([] : List UInt8)] ++ [] = cs true (List.replicate (q + 1) ([] : List UInt8)) := by
  rw [List.replicate_succ', Enc.app, List.append_nil]; rfl
theorem newD_rep {n : Nat} {l : List Fau} (h1 : 4 ≤ n) (h2 : n ≤ 48) (h3 : FauOk l) : newD (n : Int) [] l = ⟨List.replicate n [], [], 0, l, false⟩ := by
  rw [newD_yes ⟨by omega, by omega, h3⟩, Int.toNat_natCast, dskB, ← rep_suc (by omega)]
theorem dskC_rep (o : Bool) (q : Nat) (l : List Fau) : [Cell.sl o q 1 (cs o (List.replicate q ([] : List UInt8))), .sl o 0 2 [], i6 0, slE o l, b1 false] = dskC o ⟨List.replicate q [], [], 0, l, false⟩ := by
  show _ = [Cell.sl o (List.replicate q ([] : List UInt8)).length 1 (cs o (List.replicate q ([] : List UInt8))), .sl o 0 2 [], i6 0, slE o l, b1 false]
  rw [List.length_replicate]
theorem put_head {c x : Cell} : ∀ {l : List Cell}, put (c :: l) 0 [x] = some (x :: l)
  | [] => rfl
  | _ :: _ => rfl
theorem newD_out {n : Int} {b : List UInt8} {l : List Fau} (h : inB n 4 48 = false) : newD n b l = dsk0 := newD_no (fun q => by rw [inB_no] at h; omega)
theorem newD_bad {n : Int} {b : List UInt8} {l : List Fau} (h : ¬ FauOk l) : newD n b l = dsk0 := newD_no (fun q => h q.2.2)
theorem newD_ok {n : Nat} {l : List Fau} (h1 : 4 ≤ n) (h2 : n ≤ 48) : dskOk ⟨List.replicate n [], [], 0, l, false⟩ = true ↔ FauOk l := by
  rw [dskOk_iff, rep_suc (by omega)]
  exact dskB_ok h1 h2 (by simp)
theorem zD_rep (n : Nat) (l : List Fau) : zD ⟨List.replicate n [], [], 0, l, false⟩ = n + l.length := by
  have : ∀ m, cnt List.length (List.replicate m ([] : List UInt8)) = 0 := by
    intro m
    induction m with
    | zero => rfl
    | succ m ih => rw [List.replicate_succ]; simp [cnt, ih]
  simp [zD, zBS, zWS, cnt, this]

end Go.Proofs.YtacfohamlkbpjaaGreat
