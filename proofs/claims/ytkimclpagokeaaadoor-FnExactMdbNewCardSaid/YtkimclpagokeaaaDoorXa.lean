/- The library's splitting of the list of words, as a call: a fresh list of the words. -/
import Derived.Test.YtkimclpagokeaaaDoorFa
import Derived.Shelf.Strings.SplitShaped
namespace Go.Proofs
open Go.Shelf
def Tryd.laysSplit_ren : Go.Shelf.Ren := ⟨fun | 146 => 66 | 221 => 71 | 268 => 74 | 138 => 75 | 143 => 76 | 195 => 77 | 197 => 78 | 218 => 79 | 219 => 80 | 260 => 81 | 217 => 82 | 225 => 83 | 224 => 84 | 267 => 85 | 266 => 86 | 314 => 87 | n => n, fun | 9 => 9 | 31 => 101 | 3 => 3 | 4 => 4 | 0 => 0 | 105 => 109 | 21 => 21 | 5 => 5 | 46 => 113 | 119 => 114 | 139 => 117 | 138 => 116 | 146 => 119 | 51 => 118 | n => n, fun | 1 => 0 | 3 => 1 | 4 => 2 | n => n⟩
theorem Tryd.laysSplit : Go.Proofs.LaysM.n146 Tryd.prog Tryd.laysSplit_ren := {
  mixed := by kernel_rfl
  f138 := Tryd.func75.trans (congrArg some (by kernel_rfl))
  f143 := Tryd.func76.trans (congrArg some (by kernel_rfl))
  f146 := Tryd.func66.trans (congrArg some (by kernel_rfl))
  f195 := Tryd.func77.trans (congrArg some (by kernel_rfl))
  f197 := Tryd.func78.trans (congrArg some (by kernel_rfl))
  f217 := Tryd.func82.trans (congrArg some (by kernel_rfl))
  f218 := Tryd.func79.trans (congrArg some (by kernel_rfl))
  f219 := Tryd.func80.trans (congrArg some (by kernel_rfl))
  f221 := Tryd.func71.trans (congrArg some (by kernel_rfl))
  f224 := Tryd.func84.trans (congrArg some (by kernel_rfl))
  f225 := Tryd.func83.trans (congrArg some (by kernel_rfl))
  f260 := Tryd.func81.trans (congrArg some (by kernel_rfl))
  f266 := Tryd.func86.trans (congrArg some (by kernel_rfl))
  f267 := Tryd.func85.trans (congrArg some (by kernel_rfl))
  f268 := Tryd.func74.trans (congrArg some (by kernel_rfl))
  f314 := Tryd.func87.trans (congrArg some (by kernel_rfl))
  t0 := Tryd.underlying0
  a0 := Tryd.isAgg0
  z0 := Tryd.sizeOf0
  v0 := Tryd.zeroValue0
  t3 := Tryd.underlying3
  a3 := Tryd.isAgg3
  z3 := Tryd.sizeOf3
  v3 := Tryd.zeroValue3
  t4 := Tryd.underlying4
  a4 := Tryd.isAgg4
  z4 := Tryd.sizeOf4
  v4 := Tryd.zeroValue4
  t5 := Tryd.underlying5
  a5 := Tryd.isAgg5
  z5 := Tryd.sizeOf5
  v5 := Tryd.zeroValue5
  t9 := Tryd.underlying9
  a9 := Tryd.isAgg9
  z9 := Tryd.sizeOf9
  v9 := Tryd.zeroValue9
  t21 := Tryd.underlying21
  a21 := Tryd.isAgg21
  z21 := Tryd.sizeOf21
  v21 := Tryd.zeroValue21
  t31 := Tryd.underlying101
  a31 := Tryd.isAgg101
  z31 := Tryd.sizeOf101
  v31 := Tryd.zeroValue101
  t46 := Tryd.underlying113
  a46 := Tryd.isAgg113
  z46 := Tryd.sizeOf113
  v46 := Tryd.zeroValue113
  t51 := Tryd.underlying118
  a51 := Tryd.isAgg118
  z51 := Tryd.sizeOf118
  v51 := Tryd.zeroValue118
  t105 := Tryd.underlying109
  a105 := Tryd.isAgg109
  z105 := Tryd.sizeOf109
  v105 := Tryd.zeroValue109
  t119 := Tryd.underlying114
  a119 := Tryd.isAgg114
  z119 := Tryd.sizeOf114
  t138 := Tryd.underlying116
  a138 := Tryd.isAgg116
  z138 := Tryd.sizeOf116
  v138 := Tryd.zeroValue116
  t139 := Tryd.underlying117
  a139 := Tryd.isAgg117
  z139 := Tryd.sizeOf117
  v139 := Tryd.zeroValue117
  t146 := Tryd.underlying119
  a146 := Tryd.isAgg119
  z146 := Tryd.sizeOf119
  v146 := Tryd.zeroValue119
  g1 := by kernel_rfl
  g3 := by kernel_rfl
  g4 := by kernel_rfl
  i0 := by kernel_rfl
  i3 := by kernel_rfl
  i4 := by kernel_rfl
  i5 := by kernel_rfl
  i9 := by kernel_rfl
  i21 := by kernel_rfl
  i31 := by kernel_rfl
  i46 := by kernel_rfl
  i51 := by kernel_rfl
  i105 := by kernel_rfl
  i138 := by kernel_rfl
  i139 := by kernel_rfl
  i146 := by kernel_rfl
  m1 := by kernel_rfl
  s1_3 := fun w h => Go.Proofs.cell_of_shapedOpen_int (zero := #[.int .i64 0]) (t := 3) h (of_decide_eq_true (by kernel_rfl)) (by kernel_rfl) rfl (by kernel_rfl) (by kernel_rfl) Tryd.underlying3
  m3 := by kernel_rfl
  m4 := by kernel_rfl }
end Go.Proofs
namespace Go.Proofs.YtkimclpagokeaaaDoor
open Go Go.RowKit
open Enc (sz cs)

abbrev spT : ByteArray := ⟨#[116, 97, 98, 108, 101, 32, 112, 114, 105, 109, 97, 114, 121, 32, 117, 110, 105, 113, 117, 101, 32, 105, 110, 100, 101, 120, 32, 110, 117, 108, 108, 32, 100, 101, 115, 99, 32, 105, 110, 116, 32, 110, 117, 109, 32, 116, 101, 120, 116, 32, 98, 111, 111, 108]⟩
abbrev spS : ByteArray := ⟨#[32]⟩
abbrev spW : List ByteArray := [⟨#[116, 97, 98, 108, 101]⟩, ⟨#[112, 114, 105, 109, 97, 114, 121]⟩, ⟨#[117, 110, 105, 113, 117, 101]⟩, ⟨#[105, 110, 100, 101, 120]⟩, ⟨#[110, 117, 108, 108]⟩, ⟨#[100, 101, 115, 99]⟩, ⟨#[105, 110, 116]⟩, ⟨#[110, 117, 109]⟩, ⟨#[116, 101, 120, 116]⟩, ⟨#[98, 111, 111, 108]⟩]
theorem sp_cnt : Lib.countB spT spS = 9 := by kernel_rfl
theorem sp_all : Lib.splitB spS 0 9 spT = spW := by kernel_rfl
theorem s_rep {S U L w} : ∀ xs : List ByteArray, Rep S U L w (xs.map Value.string) (xs.map fun s => Cell.prim (.string s)) []
  | [] => .nil
  | _ :: xs => .prim rfl (s_rep xs)
theorem X0_gv : ∀ W : World, W.ShapedOpen Tryd.prog → ∀ b, gBlk = some b → ∃ m, W.cell? ⟨b, 0, none⟩ = some (.int .i64 m) := fun W h b hb => by
  obtain rfl : 0 = b := Option.some.inj hb
  exact Tryd.laysSplit.s1_3 W h
theorem X0_ok : ∀ f as1 vals outs, X0 f as1 vals outs → CallOK Tryd.prog f as1 vals outs := by
  rintro f as1 vals outs ⟨rfl, rfl, rfl, rfl⟩
  intro k L0 F0 vs ⟨_, hv2⟩ hm hrt
  have hvs : vs.size = 2 := hv2 rfl
  obtain ⟨x, y, rfl⟩ : ∃ x y, vs = #[x, y] := by
    obtain ⟨L⟩ := vs
    match L, hvs with
    | [x, y], _ => exact ⟨x, y, rfl⟩
  have h0 : Rep (SS k (ndOf [none, none]) L0 F0 k.w0) (· < 2) L0 k.w0 [x] [.prim (.string spT)] [] := hrt 0
  have h1 : Rep (SS k (ndOf [none, none]) L0 F0 k.w0) (· < 2) L0 k.w0 [y] [.prim (.string spS)] [] := hrt 1
  obtain rfl : x = .string spT := by cases h0 with | prim _ _ => rfl
  obtain rfl : y = .string spS := by cases h1 with | prim _ _ => rfl
  obtain ⟨_, n, hc⟩ := hm.gv 0 rfl
  have hcall := Any.strings_Split { Tryd.laysSplit with } Tryd.laysSplit.i9 spT spS n k.w0 (by decide) hc (by decide)
  rw [sp_cnt, sp_all] at hcall
  refine hcall.mono ?_
  rintro e w' ⟨rfl, rfl⟩
  have hO : ∀ j, OutOwn L0 (fun _ => []) [none, none] j = [] := fun j => by
    match j with
    | 0 => rfl
    | 1 => rfl
    | j + 2 => simp [OutOwn]
  refine ⟨_, rfl, [_], [k.w0.heap.size], fun _ => [], rfl, ?_⟩
  refine ⟨⟨[k.w0.heap.size], [], rfl, ?_, rfl⟩, fun j c hj => ?_, by simp, fun j => (by rw [hO]; exact List.nodup_nil), fun j b hb => (by rw [hO] at hb; cases hb), fun i j _ b hb => (by rw [hO] at hb; cases hb),
    fun b hb => .inl (Nat.le_of_eq (List.mem_singleton.1 hb).symm), fun j b hb => (by rw [hO] at hb; cases hb), fun b hb _ => heap_alloc_lt _ _ hb, rfl, rfl, rfl, grows_alloc _ _⟩
  · refine .own (us := spW.map Value.string) (F1 := []) ?_ rfl (Nat.le_refl _) ?_ rfl (by simp) (s_rep spW) .nil
    · exact wr_alloc k.w0 _ _
    · exact rangeAt_alloc k.w0 _ _ _ 0 (fun j v hv => by simpa using hv)
  · match j, hj with
    | 0, hj => cases hj
    | 1, hj => cases hj
    | j + 2, hj => simp at hj

end Go.Proofs.YtkimclpagokeaaaDoor
