/- The library's splitting of the list of words, as a call: a fresh list of the words. -/
import Derived.Test.YtddikflnjloagaaGreatDoorPf
import Derived.Shelf.Strings.SplitShaped
namespace Go.Proofs
open Go.Shelf
def Tryz.laysSplit_ren : Go.Shelf.Ren := ⟨fun | 146 => 150 | 221 => 166 | 268 => 171 | 138 => 172 | 143 => 173 | 195 => 176 | 197 => 177 | 218 => 178 | 219 => 179 | 260 => 180 | 217 => 181 | 225 => 182 | 224 => 183 | 267 => 184 | 266 => 185 | 314 => 186 | n => n, fun | 9 => 9 | 31 => 123 | 3 => 3 | 4 => 4 | 0 => 0 | 105 => 156 | 21 => 21 | 5 => 5 | 46 => 137 | 119 => 159 | 139 => 162 | 138 => 161 | 146 => 163 | 51 => 145 | n => n, fun | 1 => 0 | 3 => 1 | 4 => 2 | n => n⟩
theorem Tryz.laysSplit : Go.Proofs.LaysM.n146 Tryz.prog Tryz.laysSplit_ren := {
  mixed := by kernel_rfl
  f138 := Tryz.func172.trans (congrArg some (by kernel_rfl))
  f143 := Tryz.func173.trans (congrArg some (by kernel_rfl))
  f146 := Tryz.func150.trans (congrArg some (by kernel_rfl))
  f195 := Tryz.func176.trans (congrArg some (by kernel_rfl))
  f197 := Tryz.func177.trans (congrArg some (by kernel_rfl))
  f217 := Tryz.func181.trans (congrArg some (by kernel_rfl))
  f218 := Tryz.func178.trans (congrArg some (by kernel_rfl))
  f219 := Tryz.func179.trans (congrArg some (by kernel_rfl))
  f221 := Tryz.func166.trans (congrArg some (by kernel_rfl))
  f224 := Tryz.func183.trans (congrArg some (by kernel_rfl))
  f225 := Tryz.func182.trans (congrArg some (by kernel_rfl))
  f260 := Tryz.func180.trans (congrArg some (by kernel_rfl))
  f266 := Tryz.func185.trans (congrArg some (by kernel_rfl))
  f267 := Tryz.func184.trans (congrArg some (by kernel_rfl))
  f268 := Tryz.func171.trans (congrArg some (by kernel_rfl))
  f314 := Tryz.func186.trans (congrArg some (by kernel_rfl))
  t0 := Tryz.underlying0
  a0 := Tryz.isAgg0
  z0 := Tryz.sizeOf0
  v0 := Tryz.zeroValue0
  t3 := Tryz.underlying3
  a3 := Tryz.isAgg3
  z3 := Tryz.sizeOf3
  v3 := Tryz.zeroValue3
  t4 := Tryz.underlying4
  a4 := Tryz.isAgg4
  z4 := Tryz.sizeOf4
  v4 := Tryz.zeroValue4
  t5 := Tryz.underlying5
  a5 := Tryz.isAgg5
  z5 := Tryz.sizeOf5
  v5 := Tryz.zeroValue5
  t9 := Tryz.underlying9
  a9 := Tryz.isAgg9
  z9 := Tryz.sizeOf9
  v9 := Tryz.zeroValue9
  t21 := Tryz.underlying21
  a21 := Tryz.isAgg21
  z21 := Tryz.sizeOf21
  v21 := Tryz.zeroValue21
  t31 := Tryz.underlying123
  a31 := Tryz.isAgg123
  z31 := Tryz.sizeOf123
  v31 := Tryz.zeroValue123
  t46 := Tryz.underlying137
  a46 := Tryz.isAgg137
  z46 := Tryz.sizeOf137
  v46 := Tryz.zeroValue137
  t51 := Tryz.underlying145
  a51 := Tryz.isAgg145
  z51 := Tryz.sizeOf145
  v51 := Tryz.zeroValue145
  t105 := Tryz.underlying156
  a105 := Tryz.isAgg156
  z105 := Tryz.sizeOf156
  v105 := Tryz.zeroValue156
  t119 := Tryz.underlying159
  a119 := Tryz.isAgg159
  z119 := Tryz.sizeOf159
  t138 := Tryz.underlying161
  a138 := Tryz.isAgg161
  z138 := Tryz.sizeOf161
  v138 := Tryz.zeroValue161
  t139 := Tryz.underlying162
  a139 := Tryz.isAgg162
  z139 := Tryz.sizeOf162
  v139 := Tryz.zeroValue162
  t146 := Tryz.underlying163
  a146 := Tryz.isAgg163
  z146 := Tryz.sizeOf163
  v146 := Tryz.zeroValue163
  g1 := by kernel_rfl
  g3 := by kernel_rfl
  g4 := by kernel_rfl
  i0 := by kernel_rfl
  i3 := by kernel_rfl
  i4 := by kernel_rfl
  i5 := by kernel_rfl
  i9 := by kernel_rfl
  i21 := by kernel_rfl
  i31 := by kernel_rfl
  i46 := by kernel_rfl
  i51 := by kernel_rfl
  i105 := by kernel_rfl
  i138 := by kernel_rfl
  i139 := by kernel_rfl
  i146 := by kernel_rfl
  m1 := by kernel_rfl
  s1_3 := fun w h => Go.Proofs.cell_of_shapedOpen_int (zero := #[.int .i64 0]) (t := 3) h (of_decide_eq_true (by kernel_rfl)) (by kernel_rfl) rfl (by kernel_rfl) (by kernel_rfl) Tryz.underlying3
  m3 := by kernel_rfl
  m4 := by kernel_rfl }
end Go.Proofs
namespace Go.Proofs.YtddikflnjloagaaGreatDoor
open Go Go.RowKit
open Enc (sz cs)

abbrev spT : ByteArray := ⟨#[116, 97, 98, 108, 101, 32, 112, 114, 105, 109, 97, 114, 121, 32, 117, 110, 105, 113, 117, 101, 32, 105, 110, 100, 101, 120, 32, 110, 117, 108, 108, 32, 100, 101, 115, 99, 32, 105, 110, 116, 32, 110, 117, 109, 32, 116, 101, 120, 116, 32, 98, 111, 111, 108]⟩
abbrev spS : ByteArray := ⟨#[32]⟩
abbrev spW : List ByteArray := [⟨#[116, 97, 98, 108, 101]⟩, ⟨#[112, 114, 105, 109, 97, 114, 121]⟩, ⟨#[117, 110, 105, 113, 117, 101]⟩, ⟨#[105, 110, 100, 101, 120]⟩, ⟨#[110, 117, 108, 108]⟩, ⟨#[100, 101, 115, 99]⟩, ⟨#[105, 110, 116]⟩, ⟨#[110, 117, 109]⟩, ⟨#[116, 101, 120, 116]⟩, ⟨#[98, 111, 111, 108]⟩]
theorem sp_cnt : Lib.countB spT spS = 9 := by kernel_rfl
theorem sp_all : Lib.splitB spS 0 9 spT = spW := by kernel_rfl
theorem s_rep {S U L w} : ∀ xs : List ByteArray, Rep S U L w (xs.map Value.string) (xs.map fun s => Cell.prim (.string s)) []
  | [] => .nil
  | _ :: xs => .prim rfl (s_rep xs)
theorem X0_gv : ∀ W : World, W.ShapedOpen Tryz.prog → ∀ b, gBlk = some b → ∃ m, W.cell? ⟨b, 0, none⟩ = some (.int .i64 m) := fun W h b hb => by
  obtain rfl : 0 = b := Option.some.inj hb
  exact Tryz.laysSplit.s1_3 W h
theorem X0_ok : ∀ f as1 vals outs, X0 f as1 vals outs → CallOK Tryz.prog f as1 vals outs := by
  rintro f as1 vals outs ⟨rfl, rfl, rfl, rfl⟩
  intro k L0 F0 vs ⟨_, hv2⟩ hm hrt
  have hvs : vs.size = 2 := hv2 rfl
  obtain ⟨x, y, rfl⟩ : ∃ x y, vs = #[x, y] := by
    obtain ⟨L⟩ := vs
    match L, hvs with
    | [x, y], _ => exact ⟨x, y, rfl⟩
  have h0 : Rep (SS k (ndOf [none, none]) L0 F0 k.w0) (· < 2) L0 k.w0 [x] [.prim (.string spT)] [] := hrt 0
  have h1 : Rep (SS k (ndOf [none, none]) L0 F0 k.w0) (· < 2) L0 k.w0 [y] [.prim (.string spS)] [] := hrt 1
  obtain rfl : x = .string spT := by cases h0 with | prim _ _ => rfl
  obtain rfl : y = .string spS := by cases h1 with | prim _ _ => rfl
  obtain ⟨_, n, hc⟩ := hm.gv 0 rfl
  have hcall := Any.strings_Split { Tryz.laysSplit with } Tryz.laysSplit.i9 spT spS n k.w0 (by decide) hc (by decide)
  rw [sp_cnt, sp_all] at hcall
  refine hcall.mono ?_
  rintro e w' ⟨rfl, rfl⟩
  have hO : ∀ j, OutOwn L0 (fun _ => []) [none, none] j = [] := fun j => by
    match j with
    | 0 => rfl
    | 1 => rfl
    | j + 2 => simp [OutOwn]
  refine ⟨_, rfl, [_], [k.w0.heap.size], fun _ => [], rfl, ?_⟩
  refine ⟨⟨[k.w0.heap.size], [], rfl, ?_, rfl⟩, fun j c hj => ?_, by simp, fun j => (by rw [hO]; exact List.nodup_nil), fun j b hb => (by rw [hO] at hb; cases hb), fun i j _ b hb => (by rw [hO] at hb; cases hb),
    fun b hb => .inl (Nat.le_of_eq (List.mem_singleton.1 hb).symm), fun j b hb => (by rw [hO] at hb; cases hb), fun b hb _ => heap_alloc_lt _ _ hb, rfl, rfl, rfl, grows_alloc _ _⟩
  · refine .own (us := spW.map Value.string) (F1 := []) ?_ rfl (Nat.le_refl _) ?_ rfl (by simp) (s_rep spW) .nil
    · exact wr_alloc k.w0 _ _
    · exact rangeAt_alloc k.w0 _ _ _ 0 (fun j v hv => by simpa using hv)
  · match j, hj with
    | 0, hj => cases hj
    | 1, hj => cases hj
    | j + 2, hj => simp at hj

end Go.Proofs.YtddikflnjloagaaGreatDoor
