/- The library's sort, as a call: the slice that is handed in comes back in order. -/
import Derived.Test.YtkggnekdjdnhiaaGreatFa
import Derived.Shelf.Sort.Plain
namespace Go.Proofs
open Go.Shelf
def Tryz.laysSort_ren : Go.Shelf.Ren := ⟨fun | 191 => 89 | 189 => 134 | 125 => 155 | 257 => 154 | 128 => 170 | 129 => 171 | 294 => 161 | 295 => 162 | 296 => 163 | 297 => 164 | 298 => 165 | 299 => 166 | 216 => 167 | 300 => 168 | 301 => 169 | 328 => 175 | 329 => 176 | 330 => 177 | 331 => 178 | 332 => 179 | 215 => 180 | 343 => 181 | n => n, fun | 28 => 49 | 0 => 0 | 3 => 3 | 46 => 166 | 51 => 177 | 53 => 189 | 4 => 4 | 183 => 180 | 182 => 179 | 131 => 185 | 5 => 5 | 9 => 9 | 218 => 195 | 222 => 199 | 228 => 201 | 229 => 202 | n => n, fun | n => n⟩
theorem Tryz.laysSort : Go.Proofs.Lays.n191 Tryz.prog Tryz.laysSort_ren := {
  mixed := by kernel_rfl
  f125 := Tryz.func155.trans (congrArg some (by kernel_rfl))
  f128 := Tryz.func170.trans (congrArg some (by kernel_rfl))
  f129 := Tryz.func171.trans (congrArg some (by kernel_rfl))
  f189 := Tryz.func134.trans (congrArg some (by kernel_rfl))
  f191 := Tryz.func89.trans (congrArg some (by kernel_rfl))
  f215 := Tryz.func180.trans (congrArg some (by kernel_rfl))
  f216 := Tryz.func167.trans (congrArg some (by kernel_rfl))
  f257 := Tryz.func154.trans (congrArg some (by kernel_rfl))
  f294 := Tryz.func161.trans (congrArg some (by kernel_rfl))
  f295 := Tryz.func162.trans (congrArg some (by kernel_rfl))
  f296 := Tryz.func163.trans (congrArg some (by kernel_rfl))
  f297 := Tryz.func164.trans (congrArg some (by kernel_rfl))
  f298 := Tryz.func165.trans (congrArg some (by kernel_rfl))
  f299 := Tryz.func166.trans (congrArg some (by kernel_rfl))
  f300 := Tryz.func168.trans (congrArg some (by kernel_rfl))
  f301 := Tryz.func169.trans (congrArg some (by kernel_rfl))
  f328 := Tryz.func175.trans (congrArg some (by kernel_rfl))
  f329 := Tryz.func176.trans (congrArg some (by kernel_rfl))
  f330 := Tryz.func177.trans (congrArg some (by kernel_rfl))
  f331 := Tryz.func178.trans (congrArg some (by kernel_rfl))
  f332 := Tryz.func179.trans (congrArg some (by kernel_rfl))
  f343 := Tryz.func181.trans (congrArg some (by kernel_rfl))
  t0 := Tryz.underlying0
  a0 := Tryz.isAgg0
  z0 := Tryz.sizeOf0
  v0 := Tryz.zeroValue0
  t3 := Tryz.underlying3
  a3 := Tryz.isAgg3
  z3 := Tryz.sizeOf3
  v3 := Tryz.zeroValue3
  t4 := Tryz.underlying4
  a4 := Tryz.isAgg4
  z4 := Tryz.sizeOf4
  v4 := Tryz.zeroValue4
  t5 := Tryz.underlying5
  a5 := Tryz.isAgg5
  z5 := Tryz.sizeOf5
  v5 := Tryz.zeroValue5
  t9 := Tryz.underlying9
  a9 := Tryz.isAgg9
  z9 := Tryz.sizeOf9
  v9 := Tryz.zeroValue9
  t28 := Tryz.underlying49
  a28 := Tryz.isAgg49
  z28 := Tryz.sizeOf49
  v28 := Tryz.zeroValue49
  t46 := Tryz.underlying166
  a46 := Tryz.isAgg166
  z46 := Tryz.sizeOf166
  v46 := Tryz.zeroValue166
  t51 := Tryz.underlying177
  a51 := Tryz.isAgg177
  z51 := Tryz.sizeOf177
  v51 := Tryz.zeroValue177
  t53 := Tryz.underlying189
  a53 := Tryz.isAgg189
  z53 := Tryz.sizeOf189
  v53 := Tryz.zeroValue189
  t131 := Tryz.underlying185
  a131 := Tryz.isAgg185
  z131 := Tryz.sizeOf185
  v131 := Tryz.zeroValue185
  t182 := Tryz.underlying179
  a182 := Tryz.isAgg179
  z182 := Tryz.sizeOf179
  v182 := Tryz.zeroValue179
  t183 := Tryz.underlying180
  a183 := Tryz.isAgg180
  z183 := Tryz.sizeOf180
  v183 := Tryz.zeroValue180
  t218 := Tryz.underlying195
  a218 := Tryz.isAgg195
  z218 := Tryz.sizeOf195
  v218 := Tryz.zeroValue195
  t222 := Tryz.underlying199
  a222 := Tryz.isAgg199
  z222 := Tryz.sizeOf199
  v222 := Tryz.zeroValue199
  t228 := Tryz.underlying201
  a228 := Tryz.isAgg201
  z228 := Tryz.sizeOf201
  v228 := Tryz.zeroValue201
  t229 := Tryz.underlying202
  a229 := Tryz.isAgg202
  z229 := Tryz.sizeOf202
  v229 := Tryz.zeroValue202 }
end Go.Proofs
namespace Go.Proofs.YtkggnekdjdnhiaaGreat
open Go Go.RowKit Go.Sort
open Enc (sz cs)

theorem rep_i64 {S U L w} : ∀ {ns : List Int} {us : List Value} {G : List Nat}, Rep S U L w us (cs true ns) G → us = ns.map (Value.int .i64) ∧ G = []
  | [], us, G, hr => by
    have hr : Rep S U L w us [] G := hr
    cases hr; exact ⟨rfl, rfl⟩
  | n :: ns, us, G, hr => by
    have hr : Rep S U L w us (.prim (.int .i64 n) :: cs true ns) G := hr
    cases hr with
    | prim _ h => obtain ⟨e, g⟩ := rep_i64 h; exact ⟨by rw [e]; rfl, g⟩
theorem i64_rep {S U L w} : ∀ ns : List Int, Rep S U L w (ns.map (Value.int .i64)) (cs true ns) []
  | [] => .nil
  | _ :: ns => .prim rfl (i64_rep ns)
theorem wr_back {w : World} {os : Array Obj} {n blk off m : Nat} {d : Array Int} (hb : blk < w.heap.size) (h : Wr w blk m) : Wr (grow (putRow (Value.int .i64) (Sort.ahead w n) blk off d) os) blk m := by
  obtain ⟨c, e, lo, hi, h1, h2, h3⟩ := h
  refine ⟨putCells (Value.int .i64) off d c, e, lo, hi, ?_, by simpa [putCells] using h2, fun o ho => h3 o (by simpa [putCells] using ho)⟩
  rw [heap_grow_old _ _ (by simpa [Sort.ahead] using hb)]
  simp only [putRow, mapBlock, Sort.ahead, Array.getElem?_modify, if_true, h1, Option.map_some, onCells]
theorem heap_back {w : World} {os : Array Obj} {n blk off b : Nat} {d : Array Int} (hb : b < w.heap.size) (h : b ≠ blk) : (grow (putRow (Value.int .i64) (Sort.ahead w n) blk off d) os).heap[b]? = w.heap[b]? := by
  rw [heap_grow_old _ _ (by simpa [Sort.ahead] using hb)]
  simp only [putRow, mapBlock, Sort.ahead, Array.getElem?_modify, Ne.symm h, if_false]
theorem grows_back {w : World} {os : Array Obj} {n blk off : Nat} {d : Array Int} : Grows w (grow (putRow (Value.int .i64) (Sort.ahead w n) blk off d) os) := by
  refine ⟨by simp [Sort.ahead], fun b c e fr h => ?_⟩
  have hb : b < w.heap.size := (Array.getElem?_eq_some_iff.1 h).1
  by_cases hbb : b = blk
  · subst hbb
    refine ⟨putCells (Value.int .i64) off d c, ?_, by simp [putCells]⟩
    rw [heap_grow_old _ _ (by simpa [Sort.ahead] using hb)]
    simp only [putRow, mapBlock, Sort.ahead, Array.getElem?_modify, if_true, h, Option.map_some, onCells]
  · exact ⟨c, by rw [heap_back hb hbb]; exact h, rfl⟩

theorem X0_ok : ∀ f as1 vals outs, X0 f as1 vals outs → CallOK Tryz.prog f as1 vals outs := by
  rintro f as1 vals outs ⟨rfl, l, hp, hl, rfl, rfl, rfl⟩
  intro k L0 F0 vs ⟨hv1, hv2⟩ hm hrt
  have hvs : vs.size = 1 := hv2 rfl
  obtain ⟨x, rfl⟩ : ∃ x, vs = #[x] := by
    obtain ⟨L⟩ := vs
    match L, hvs with
    | [x], _ => exact ⟨x, rfl⟩
  have h0 : Rep (SS k (ndOf [some (true, cs true l)]) L0 F0 k.w0) (· < 1) L0 k.w0 [x] [.ref 0 0 l.length 1] [] := hrt 0
  have hne : cs true l ≠ [] := fun e => by have := cs_len (o := true) l; rw [e] at this; simp at this; omega
  obtain ⟨_, us, hra, hrep, hW, _⟩ := hm.node 0 (true, cs true l) rfl
  obtain ⟨rfl, hF⟩ := rep_i64 hrep
  have hW := hW hne
  rw [List.length_map] at hW
  have hown : Own (ndOf [some (true, cs true l)]) L0 F0 0 = [(L0 0).1] := by rw [own_ne (cs := cs true l) rfl hne, hF]
  have hin := hm.inB 0 (L0 0).1 (by show _ ∈ Own (ndOf [some (true, cs true l)]) L0 F0 0; rw [hown]; simp)
  have hlt : (L0 0).1 < k.w0.heap.size := hW.lt
  have hB : (L0 0).1 ∈ k.B0 := hin.resolve_left (by omega)
  have hH : Holds (Value.int .i64) k.w0 (L0 0).1 (L0 0).2 l.toArray := fun j hj => by
    have hj : j < l.length := by simpa using hj
    exact ⟨(hra j (.int .i64 l[j]) (by rw [List.getElem?_map, List.getElem?_eq_getElem hj]; rfl)).trans (by rw [getElem!_pos l.toArray j (by simpa using hj)]; simp), hW.unfrozen (by omega)⟩
  generalize hs : (l.mergeSort fun x y => decide (x ≤ y)) = s
  have hsl : s.length = l.length := by rw [← hs]; simp
  have hsne : cs true s ≠ [] := fun e => by have := cs_len (o := true) s; rw [e] at this; simp at this; omega
  have main : ∀ cap, Calls Tryz.prog 89 #[.slice (some ⟨(L0 0).1, (L0 0).2, none⟩) l.length cap] k.w0 fun e w' => ∃ v, e = .returned v ∧ Fin k L0 [] [some (cs true s)] v w' := by
    intro cap
    refine (Any.sort_Ints Tryz.laysSort (L0 0).1 (L0 0).2 cap l k.w0 hH hlt (by omega)).mono ?_
    rintro e w' ⟨rfl, n, os, rfl⟩
    rw [hs]
    have hOO : ∀ j, OutOwn L0 (fun _ => []) [some (cs true s)] j = if j = 0 then [(L0 0).1] else [] := fun j => by
      cases j with
      | zero => simp only [OutOwn, List.getElem?_cons_zero, if_true]; exact OB_ne hsne
      | succ j => simp [OutOwn]
    refine ⟨.tuple #[], rfl, [], [], fun _ => [], rfl, ?_⟩
    refine ⟨rfl, fun j c hj => ?_, by simp, fun j => (by rw [hOO]; split <;> simp), fun j b hb => (by simp), fun i j hij b hb => ?_, fun b hb => (by cases hb), fun j b hb => ?_, fun b hb hbn => ?_, rfl, rfl, rfl, grows_back⟩
    · cases j with
      | zero =>
        obtain rfl : cs true s = c := by simpa using hj
        refine ⟨s.map (Value.int .i64), ?_, i64_rep s, fun _ => ?_, cs_clo s⟩
        · intro j v hv
          rw [List.getElem?_map] at hv
          cases e : s[j]? with
          | none => rw [e] at hv; cases hv
          | some y =>
            rw [e] at hv
            obtain rfl := Option.some.inj hv
            have hj : j < s.length := (List.getElem?_eq_some_iff.1 e).1
            rw [cell?_grow _ _ _ (by simpa [Sort.ahead] using hlt)]
            have hH2 : Holds (Value.int .i64) (Sort.ahead k.w0 n) (L0 0).1 (L0 0).2 l.toArray := hH
            rw [cell?_putRow _ _ _ _ _ _ hH2 (by simp [hsl]) j (by simpa using hj), getElem!_pos s.toArray j (by simpa using hj)]
            have := (List.getElem?_eq_some_iff.1 e).2
            simp [this]
        · rw [List.length_map, hsl]; exact wr_back hlt hW
      | succ j => simp at hj
    · rw [hOO] at hb ⊢
      split at hb
      · subst_vars; rw [if_neg (Ne.symm hij)]; simp
      · cases hb
    · rw [hOO] at hb
      split at hb
      · obtain rfl := List.mem_singleton.1 hb; exact .inr hB
      · cases hb
    · exact heap_back hb fun e => hbn (e ▸ hB)
  generalize l.length = N at h0 main hp
  cases h0 with
  | @ref _ _ _ _ cap _ _ _ _ _ _ _ hn => cases hn; exact main cap
  | ref0 _ _ _ => omega

end Go.Proofs.YtkggnekdjdnhiaaGreat
