/- The library's splitting of the list of words, as a call: a fresh list of the words. -/
import Derived.Test.YtopnaijeicknoaaGreatDoorFa
import Derived.Shelf.Strings.SplitShaped
namespace Go.Proofs
open Go.Shelf
def Tryz.laysSplit_ren : Go.Shelf.Ren := ⟨fun | 146 => 169 | 221 => 182 | 268 => 188 | 138 => 189 | 143 => 190 | 195 => 194 | 197 => 195 | 218 => 196 | 219 => 197 | 260 => 199 | 217 => 200 | 225 => 201 | 224 => 202 | 267 => 203 | 266 => 204 | 314 => 205 | n => n, fun | 9 => 9 | 31 => 179 | 3 => 3 | 4 => 4 | 0 => 0 | 105 => 196 | 21 => 21 | 5 => 5 | 46 => 182 | 119 => 199 | 139 => 202 | 138 => 201 | 146 => 203 | 51 => 192 | n => n, fun | 1 => 0 | 3 => 1 | 4 => 2 | n => n⟩
theorem Tryz.laysSplit : Go.Proofs.LaysM.n146 Tryz.prog Tryz.laysSplit_ren := {
  mixed := by kernel_rfl
  f138 := Tryz.func189.trans (congrArg some (by kernel_rfl))
  f143 := Tryz.func190.trans (congrArg some (by kernel_rfl))
  f146 := Tryz.func169.trans (congrArg some (by kernel_rfl))
  f195 := Tryz.func194.trans (congrArg some (by kernel_rfl))
  f197 := Tryz.func195.trans (congrArg some (by kernel_rfl))
  f217 := Tryz.func200.trans (congrArg some (by kernel_rfl))
  f218 := Tryz.func196.trans (congrArg some (by kernel_rfl))
  f219 := Tryz.func197.trans (congrArg some (by kernel_rfl))
  f221 := Tryz.func182.trans (congrArg some (by kernel_rfl))
  f224 := Tryz.func202.trans (congrArg some (by kernel_rfl))
  f225 := Tryz.func201.trans (congrArg some (by kernel_rfl))
  f260 := Tryz.func199.trans (congrArg some (by kernel_rfl))
  f266 := Tryz.func204.trans (congrArg some (by kernel_rfl))
  f267 := Tryz.func203.trans (congrArg some (by kernel_rfl))
  f268 := Tryz.func188.trans (congrArg some (by kernel_rfl))
  f314 := Tryz.func205.trans (congrArg some (by kernel_rfl))
  t0 := Tryz.underlying0
  a0 := Tryz.isAgg0
  z0 := Tryz.sizeOf0
  v0 := Tryz.zeroValue0
  t3 := Tryz.underlying3
  a3 := Tryz.isAgg3
  z3 := Tryz.sizeOf3
  v3 := Tryz.zeroValue3
  t4 := Tryz.underlying4
  a4 := Tryz.isAgg4
  z4 := Tryz.sizeOf4
  v4 := Tryz.zeroValue4
  t5 := Tryz.underlying5
  a5 := Tryz.isAgg5
  z5 := Tryz.sizeOf5
  v5 := Tryz.zeroValue5
  t9 := Tryz.underlying9
  a9 := Tryz.isAgg9
  z9 := Tryz.sizeOf9
  v9 := Tryz.zeroValue9
  t21 := Tryz.underlying21
  a21 := Tryz.isAgg21
  z21 := Tryz.sizeOf21
  v21 := Tryz.zeroValue21
  t31 := Tryz.underlying179
  a31 := Tryz.isAgg179
  z31 := Tryz.sizeOf179
  v31 := Tryz.zeroValue179
  t46 := Tryz.underlying182
  a46 := Tryz.isAgg182
  z46 := Tryz.sizeOf182
  v46 := Tryz.zeroValue182
  t51 := Tryz.underlying192
  a51 := Tryz.isAgg192
  z51 := Tryz.sizeOf192
  v51 := Tryz.zeroValue192
  t105 := Tryz.underlying196
  a105 := Tryz.isAgg196
  z105 := Tryz.sizeOf196
  v105 := Tryz.zeroValue196
  t119 := Tryz.underlying199
  a119 := Tryz.isAgg199
  z119 := Tryz.sizeOf199
  t138 := Tryz.underlying201
  a138 := Tryz.isAgg201
  z138 := Tryz.sizeOf201
  v138 := Tryz.zeroValue201
  t139 := Tryz.underlying202
  a139 := Tryz.isAgg202
  z139 := Tryz.sizeOf202
  v139 := Tryz.zeroValue202
  t146 := Tryz.underlying203
  a146 := Tryz.isAgg203
  z146 := Tryz.sizeOf203
  v146 := Tryz.zeroValue203
  g1 := by kernel_rfl
  g3 := by kernel_rfl
  g4 := by kernel_rfl
  i0 := by kernel_rfl
  i3 := by kernel_rfl
  i4 := by kernel_rfl
  i5 := by kernel_rfl
  i9 := by kernel_rfl
  i21 := by kernel_rfl
  i31 := by kernel_rfl
  i46 := by kernel_rfl
  i51 := by kernel_rfl
  i105 := by kernel_rfl
  i138 := by kernel_rfl
  i139 := by kernel_rfl
  i146 := by kernel_rfl
  m1 := by kernel_rfl
  s1_3 := fun w h => Go.Proofs.cell_of_shapedOpen_int (zero := #[.int .i64 0]) (t := 3) h (of_decide_eq_true (by kernel_rfl)) (by kernel_rfl) rfl (by kernel_rfl) (by kernel_rfl) Tryz.underlying3
  m3 := by kernel_rfl
  m4 := by kernel_rfl }
end Go.Proofs
namespace Go.Proofs.YtopnaijeicknoaaGreatDoor
open Go Go.RowKit
open Enc (sz cs)

abbrev spT : ByteArray := ⟨#[116, 97, 98, 108, 101, 32, 112, 114, 105, 109, 97, 114, 121, 32, 117, 110, 105, 113, 117, 101, 32, 105, 110, 100, 101, 120, 32, 110, 117, 108, 108, 32, 100, 101, 115, 99, 32, 105, 110, 116, 32, 110, 117, 109, 32, 116, 101, 120, 116, 32, 98, 111, 111, 108]⟩
abbrev spS : ByteArray := ⟨#[32]⟩
abbrev spW : List ByteArray := [⟨#[116, 97, 98, 108, 101]⟩, ⟨#[112, 114, 105, 109, 97, 114, 121]⟩, ⟨#[117, 110, 105, 113, 117, 101]⟩, ⟨#[105, 110, 100, 101, 120]⟩, ⟨#[110, 117, 108, 108]⟩, ⟨#[100, 101, 115, 99]⟩, ⟨#[105, 110, 116]⟩, ⟨#[110, 117, 109]⟩, ⟨#[116, 101, 120, 116]⟩, ⟨#[98, 111, 111, 108]⟩]
theorem sp_cnt : Lib.countB spT spS = 9 := by kernel_rfl
theorem sp_all : Lib.splitB spS 0 9 spT = spW := by kernel_rfl
theorem s_rep {S U L w} : ∀ xs : List ByteArray, Rep S U L w (xs.map Value.string) (xs.map fun s => Cell.prim (.string s)) []
  | [] => .nil
  | _ :: xs => .prim rfl (s_rep xs)
theorem X0_gv : ∀ W : World, W.ShapedOpen Tryz.prog → ∀ b, gBlk = some b → ∃ m, W.cell? ⟨b, 0, none⟩ = some (.int .i64 m) := fun W h b hb => by
  obtain rfl : 0 = b := Option.some.inj hb
  exact Tryz.laysSplit.s1_3 W h
theorem X0_ok : ∀ f as1 vals outs, X0 f as1 vals outs → CallOK Tryz.prog f as1 vals outs := by
  rintro f as1 vals outs ⟨rfl, rfl, rfl, rfl⟩
  intro k L0 F0 vs ⟨_, hv2⟩ hm hrt
  have hvs : vs.size = 2 := hv2 rfl
  obtain ⟨x, y, rfl⟩ : ∃ x y, vs = #[x, y] := by
    obtain ⟨L⟩ := vs
    match L, hvs with
    | [x, y], _ => exact ⟨x, y, rfl⟩
  have h0 : Rep (SS k (ndOf [none, none]) L0 F0 k.w0) (· < 2) L0 k.w0 [x] [.prim (.string spT)] [] := hrt 0
  have h1 : Rep (SS k (ndOf [none, none]) L0 F0 k.w0) (· < 2) L0 k.w0 [y] [.prim (.string spS)] [] := hrt 1
  obtain rfl : x = .string spT := by cases h0 with | prim _ _ => rfl
  obtain rfl : y = .string spS := by cases h1 with | prim _ _ => rfl
  obtain ⟨_, n, hc⟩ := hm.gv 0 rfl
  have hcall := Any.strings_Split { Tryz.laysSplit with } Tryz.laysSplit.i9 spT spS n k.w0 (by decide) hc (by decide)
  rw [sp_cnt, sp_all] at hcall
  refine hcall.mono ?_
  rintro e w' ⟨rfl, rfl⟩
  have hO : ∀ j, OutOwn L0 (fun _ => []) [none, none] j = [] := fun j => by
    match j with
    | 0 => rfl
    | 1 => rfl
    | j + 2 => simp [OutOwn]
  refine ⟨_, rfl, [_], [k.w0.heap.size], fun _ => [], rfl, ?_⟩
  refine ⟨⟨[k.w0.heap.size], [], rfl, ?_, rfl⟩, fun j c hj => ?_, by simp, fun j => (by rw [hO]; exact List.nodup_nil), fun j b hb => (by rw [hO] at hb; cases hb), fun i j _ b hb => (by rw [hO] at hb; cases hb),
    fun b hb => .inl (Nat.le_of_eq (List.mem_singleton.1 hb).symm), fun j b hb => (by rw [hO] at hb; cases hb), fun b hb _ => heap_alloc_lt _ _ hb, rfl, rfl, rfl, grows_alloc _ _⟩
  · refine .own (us := spW.map Value.string) (F1 := []) ?_ rfl (Nat.le_refl _) ?_ rfl (by simp) (s_rep spW) .nil
    · exact wr_alloc k.w0 _ _
    · exact rangeAt_alloc k.w0 _ _ _ 0 (fun j v hv => by simpa using hv)
  · match j, hj with
    | 0, hj => cases hj
    | 1, hj => cases hj
    | j + 2, hj => simp at hj

end Go.Proofs.YtopnaijeicknoaaGreatDoor
