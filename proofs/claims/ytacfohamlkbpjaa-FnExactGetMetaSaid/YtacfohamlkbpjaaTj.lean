/- One operation, part 4: reckoning, comparing, cutting, turning; and all of them together. -/
import Derived.Test.YtacfohamlkbpjaaTi
import Derived.Laws.BytesString
namespace Go.Proofs.Ytacfohamlkbpjaa
open Go Go.RowKit

section
variable {k : Base} {h : Nat → Option Node} {w : World} {L : Nat → Nat × Nat} {F : Nat → List Nat} {U : Nat → Prop} {nid : Nat} {P : Program}

theorem guard_prim (op : BinOp) (t : TypeId) (x y : Operand) (a b : Value) (h1 : a.oneCell' = true) (h2 : a ≠ .nilIface) : (eqGuard op t x y a b).run P w = .ok () w := by
  unfold eqGuard
  cases op <;> simp <;> cases a <;> simp_all [Value.oneCell']

theorem intT_run {op : BinOp} {t : TypeId} {kk : IntKind} {a b : Int} {r : Value} (he : intT op kk a b = some r) (hns : op ≠ .shl ∧ op ≠ .shr) : (binOp op t (.int kk a) (.int kk b)).run P w = .ok r w ∧ r.oneCell' = true := by
  cases op <;> simp [intT, bitT] at he <;> simp at hns <;>
    first
      | (subst he; simp [binOp, Op.intArith, Op.intBits, Op.intCmp, Value.oneCell']; done)
      | (obtain ⟨h0, rfl⟩ := he; simp [binOp, Op.intDiv, h0, Value.oneCell']; done)

theorem strT_run {op : BinOp} {t : TypeId} {a b : ByteArray} {r : Value} (he : strT op a b = some r) : (binOp op t (.string a) (.string b)).run P w = .ok r w ∧ r.oneCell' = true := by
  cases op <;> simp [strT] at he
  case add =>
    obtain ⟨h0, rfl⟩ := he
    have hn : ¬ (((a.size + b.size : Nat) : Int) > IntKind.i64.max) := by
      have : IntKind.i64.max = 9223372036854775807 := by decide
      omega
    refine ⟨?_, rfl⟩
    simp only [binOp, Op.stringOp]
    rw [if_neg hn]; rfl
  all_goals first | (subst he; exact ⟨rfl, rfl⟩) | (subst he; refine ⟨?_, rfl⟩; simp [binOp, Op.stringOp])

theorem binT_run {op : BinOp} {t : TypeId} {a b r : Value} (he : binT P op t a b = some r) : (binOp op t a b).run P w = .ok r w ∧ r.oneCell' = true ∧ a.oneCell' = true ∧ a ≠ .nilIface := by
  unfold binT at he
  split at he
  · split at he
    · cases he
    · rename_i hb
      obtain rfl := Option.some.inj he
      simp [binOp, Op.shift, hb, Value.oneCell']
  · split at he
    · cases he
    · rename_i hb
      obtain rfl := Option.some.inj he
      simp [binOp, Op.shift, hb, Value.oneCell']
  · rename_i hs1 hs2
    split at he
    · rename_i e
      subst e
      obtain ⟨h1, h2⟩ := intT_run (P := P) (w := w) (t := t) he ⟨hs1, hs2⟩
      exact ⟨h1, h2, rfl, by simp⟩
    · cases he
  · obtain ⟨h1, h2⟩ := strT_run (P := P) (w := w) (t := t) he
    exact ⟨h1, h2, rfl, by simp⟩
  · split at he
    · rename_i hu
      obtain rfl := Option.some.inj he
      refine ⟨?_, rfl, rfl, by simp⟩
      simp [binOp, Op.equal, Op.maxDepth, run_equalIn_bool' w _ t _ _ hu]
    · cases he
  · split at he
    · rename_i hu
      obtain rfl := Option.some.inj he
      refine ⟨?_, rfl, rfl, by simp⟩
      simp [binOp, Op.equal, Op.maxDepth, run_equalIn_bool' w _ t _ _ hu]
    · cases he
  · cases he

theorem snd_bin (m : Mem k h w L F U) {op : BinOp} {t : TypeId} {x y : Operand} {u v a b r : Value} (hx : RTV (SS k h L F w) U L w u (.v false [.prim a])) (hy : RTV (SS k h L F w) U L w v (.v false [.prim b])) (he : binT P op t a b = some r) :
    Snd k h w L F U nid ((do pure (Next.value (← (do eqGuard op t x y u v; binOp op t u v))) : Sem Next).run P w) (.v false [.prim r]) [] := by
  obtain rfl := rep_prim hx
  obtain rfl := rep_prim hy
  obtain ⟨h1, h2, h3, h4⟩ := binT_run (P := P) (w := w) he
  exact snd_same m (v := r) (by simp [guard_prim op t x y u v h3 h4, h1]) (rtv_prim h2)

theorem eqCell_run {t : TypeId} {xs ys : Array Value} {cx cy : List Cell} {off : Nat} {r : Bool} {S U L} (hx : Rep S U L w xs.toList cx []) (hy : Rep S U L w ys.toList cy []) (he : eqCell P t cx[off]? cy[off]? = some r) (d : Nat) :
    ∃ a b, (part t xs off).run P w = .ok a w ∧ (part t ys off).run P w = .ok b w ∧ (Op.equalIn (d + 1) t a b).run P w = .ok r w := by
  have get : ∀ {zs : Array Value} {cz : List Cell} {v : Value}, Rep S U L w zs.toList cz [] → cz[off]? = some (.prim v) → zs[off]? = some v := by
    intro zs cz v hz hc
    have h1 := rep_drop off hz
    have hlt : off < cz.length := (List.getElem?_eq_some_iff.1 hc).1
    rw [List.drop_eq_getElem_cons hlt] at h1
    have hl := hz.length
    rw [List.drop_eq_getElem_cons (by omega)] at h1
    rw [show cz[off] = .prim v by rw [List.getElem?_eq_getElem hlt] at hc; exact Option.some.inj hc] at h1
    have hz2 : off < zs.toList.length := by omega
    have e : zs.toList[off] = v := by
      generalize zs.toList[off] = q at h1
      cases h1; rfl
    rw [← Array.getElem?_toList, List.getElem?_eq_getElem hz2, e]
  have prt : ∀ {zs : Array Value} {v : Value} {dd : TypeDesc}, P.underlying t = some dd → dd.isRow = false → zs[off]? = some v → (part t zs off).run P w = .ok v w := by
    intro zs v dd hu hd hz
    have hagg : (isAgg t).run P w = .ok false w := by
      unfold isAgg
      rw [Sem.run_bind, run_underlying hu w]
      cases dd <;> simp_all
    simp [part, hagg, hz]
  unfold eqCell at he
  split at he
  · rename_i k1 a k2 b e1 e2
    split at he
    · rename_i k3 hu
      split at he
      · rename_i ek
        subst ek
        obtain rfl := Option.some.inj he
        exact ⟨_, _, prt hu rfl (get hx e1), prt hu rfl (get hy e2), run_equalIn_int w d t k1 k3 a b hu⟩
      · cases he
    · cases he
  · rename_i a b e1 e2
    split at he
    · rename_i hu
      obtain rfl := Option.some.inj he
      exact ⟨_, _, prt hu rfl (get hx e1), prt hu rfl (get hy e2), run_equalIn_bool' w d t a b hu⟩
    · cases he
  · rename_i a b e1 e2
    split at he
    · rename_i hu
      obtain rfl := Option.some.inj he
      exact ⟨_, _, prt hu rfl (get hx e1), prt hu rfl (get hy e2), by rw [run_equalIn_string w d t a b hu, beq_toListBytes]⟩
    · cases he
  · cases he

theorem eqFields_run {xs ys : Array Value} {cx cy : List Cell} {S U L} (hx : Rep S U L w xs.toList cx []) (hy : Rep S U L w ys.toList cy []) (d : Nat) : ∀ (fs : List Field) (r : Bool), eqFields P cx cy fs = some r → (Op.eqFields (d + 1) xs ys fs).run P w = .ok r w
  | [], r, he => by simp [eqFields] at he; subst he; simp [Op.eqFields]
  | f :: fs, r, he => by
    unfold eqFields at he
    split at he
    · cases he
    · rename_i hn
      split at he
      · rename_i hc
        obtain ⟨a, b, h1, h2, h3⟩ := eqCell_run (P := P) hx hy hc d
        have ih := eqFields_run hx hy d fs r he
        rw [Op.eqFields, if_pos hn]
        simp [h1, h2, h3, ih]
      · rename_i hc
        obtain ⟨a, b, h1, h2, h3⟩ := eqCell_run (P := P) hx hy hc d
        obtain rfl := Option.some.inj he
        rw [Op.eqFields, if_pos hn]
        simp [h1, h2, h3]
      · cases he

theorem snd_eqStruct (m : Mem k h w L F U) {op : BinOp} {t : TypeId} {x y : Operand} {u v : Value} {l l' : List Cell} {r : Bool} (hx : RTV (SS k h L F w) U L w u (.v true l)) (hy : RTV (SS k h L F w) U L w v (.v true l')) (he : eqStruct P t l l' = some r) :
    (op = .eql → Snd k h w L F U nid ((do pure (Next.value (← (do eqGuard op t x y u v; binOp op t u v))) : Sem Next).run P w) (.v false [.prim (.bool r)]) []) ∧
    (op = .neq → Snd k h w L F U nid ((do pure (Next.value (← (do eqGuard op t x y u v; binOp op t u v))) : Sem Next).run P w) (.v false [.prim (.bool !r)]) []) := by
  obtain ⟨xs, rfl, hx⟩ := hx
  obtain ⟨ys, rfl, hy⟩ := hy
  unfold eqStruct at he
  split at he
  · cases he
  · rename_i hg
    have hg1 : P.stoodInHeld t = false := by simpa using fun e => hg (.inl e)
    have hg2 : P.eqGuardType P.depth t = false := by simpa using fun e => hg (.inr e)
    split at he
    · rename_i fs hu
      have hf : P.fieldsOf t = fs := by simp [Program.fieldsOf, hu]
      have hr := eqFields_run (P := P) hx hy 9998 fs.toList r he
      have hq : (Op.equalIn 10000 t (.agg xs) (.agg ys)).run P w = .ok r w := by
        rw [run_equalIn_struct (P := P) w 9999 t xs ys (by rw [hf]; exact hu) hg1, hf]; exact hr
      refine ⟨fun e => ?_, fun e => ?_⟩
      · subst e
        exact snd_same m (v := .bool r) (by simp [eqGuard, hg2, binOp, Op.equal, Op.maxDepth, hq]) (rtv_prim rfl)
      · subst e
        exact snd_same m (v := .bool !r) (by simp [eqGuard, hg2, binOp, Op.equal, Op.maxDepth, hq]) (rtv_prim rfl)
    · cases he

theorem snd_un (m : Mem k h w L F U) {op : UnOp} {u a r : Value} (hx : RTV (SS k h L F w) U L w u (.v false [.prim a])) (he : unT op a = some r) :
    Snd k h w L F U nid ((do pure (Next.value (← Op.unary op u)) : Sem Next).run P w) (.v false [.prim r]) [] := by
  obtain rfl := rep_prim hx
  unfold unT at he
  split at he
  · obtain rfl := Option.some.inj he
    exact snd_same m (by simp [Op.unary, Op.intArith]) (rtv_prim rfl)
  · simp [bitT] at he
    subst he
    exact snd_same m (by simp [Op.unary, Op.intBits]) (rtv_prim rfl)
  · obtain rfl := Option.some.inj he
    exact snd_same m (by simp [Op.unary]) (rtv_prim rfl)
  · cases he
end

end Go.Proofs.Ytacfohamlkbpjaa
