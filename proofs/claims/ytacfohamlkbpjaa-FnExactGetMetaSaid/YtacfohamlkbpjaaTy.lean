/- From a law's T reading to its row. -/
import Derived.Test.YtacfohamlkbpjaaTx
import Derived.ProofKit
import Derived.Carry
import Derived.SizedLaws
namespace Go.Proofs.Ytacfohamlkbpjaa
open Go Go.RowKit Go.ChangeShapes

def fieldsOK (P : Program) : Nat → List Field → Nat → Bool
  | off, [], n => off == n
  | off, f :: fs, n => f.offset == off && fieldsOK P (off + P.cellsOf f.type) fs n

/-- Types of plain data. -/
def plainN (P : Program) : Nat → TypeId → Bool
  | 0, _ => false
  | d + 1, t => match P.underlying t with
    | some .bool | some (.int _) | some .string => P.cellsOf t == 1
    | some (.slice e) => plainN P d e && decide (0 < P.cellsOf e) && P.cellsOf t == 1
    | some (.struct fs) => fieldsOK P 0 fs.toList (P.cellsOf t) && fs.toList.all fun f => plainN P d f.type
    | _ => false

/-- The cells of a list of elements or fields. -/
inductive Each {α : Type} (R : α → List Cell → Prop) : List α → List Cell → Prop
  | nil : Each R [] []
  | cons {a l as ls} : R a l → Each R as ls → Each R (a :: as) (l ++ ls)

/-- `n` parts, one behind the other. -/
inductive Reps (R : List Cell → Prop) : Nat → List Cell → Prop
  | nil : Reps R 0 []
  | cons {n l ls} : R l → Reps R n ls → Reps R (n + 1) (l ++ ls)

/-- The cells of plain data of a type, as they come into a law. -/
def fitN (P : Program) : Nat → TypeId → List Cell → Prop
  | 0, _, _ => False
  | d + 1, t, cs => match P.underlying t with
    | some .bool => ∃ b, cs = [.prim (.bool b)]
    | some (.int k) => ∃ n, cs = [.prim (.int k n)] ∧ (Lit.int k n).wf = true
    | some .string => ∃ s, cs = [.prim (.string s)] ∧ s.size ≤ reachBytes
    | some (.slice e) => ∃ n l, cs = [.sl false n (P.cellsOf e) l] ∧ n * P.bytesOf e ≤ reachBytes ∧ Reps (fitN P d e) n l
    | some (.struct fs) => Each (fun (f : Field) l => fitN P d f.type l) fs.toList cs
    | _ => False

theorem cells?_some {w : World} {base : Nat} {a : Addr} {n : Nat} {cs : List Value} (h : w.cells? base a n = some cs) : cs.length = n ∧ ∀ (j : Nat) v, cs[j]? = some v → w.cell? (a.add j) = some v := by
  unfold World.cells? at h
  split at h
  · have hl := mapM_some_length h
    simp only [List.length_range] at hl
    refine ⟨hl, fun j v hj => ?_⟩
    have hjn : j < n := by rw [← hl]; exact (List.getElem?_eq_some_iff.1 hj).1
    have := mapM_some_get h j j (by simp [hjn])
    rw [hj] at this; exact this
  · cases h

theorem cell_spot {w : World} {a : Addr} {v : Value} (h : w.cell? a = some v) : a.spot = none ∧ a.block < w.heap.size := by
  unfold World.cell? at h
  split at h
  · rename_i c t fr hb
    split at h
    · cases h
    · rename_i hs
      exact ⟨by simpa using hs, (Array.getElem?_eq_some_iff.1 hb).1⟩
  · cases h

section
variable {H : Type} {enc : TypeId × Value → H} {P : Program} {w : World}

theorem fit_of_trod : ∀ (d : Nat) (t : TypeId) (fuel : Nat) (cs : List Value) (x : DataW H × List MemPlace), plainN P d t = true → DataW.trod enc P w 0 (fun _ => true) true fuel t cs = some x →
    (x.1.weights P t).all (· ≤ reachBytes) = true → cs.length = P.cellsOf t ∧ ∃ l, Rep (fun b => b < w.heap.size) noU noL w cs l [] ∧ fitN P d t l ∧ closedL l = true
  | 0, _, _, _, _, hp, _, _ => by simp [plainN] at hp
  | d + 1, t, fuel, cs, x, hp, hx, hw => by
    unfold plainN at hp
    unfold fitN
    split at hp
    · rename_i ht
      obtain ⟨b, rfl, rfl⟩ := DataW.trod_bool ht hx
      exact ⟨by simpa using (beq_iff_eq.1 hp).symm, _, .prim rfl .nil, ⟨b, rfl⟩, rfl⟩
    · rename_i k ht
      obtain ⟨n, rfl, rfl, hn⟩ := DataW.trod_int ht hx
      exact ⟨by simpa using (beq_iff_eq.1 hp).symm, _, .prim rfl .nil, ⟨n, rfl, hn⟩, rfl⟩
    · rename_i ht
      obtain ⟨s, rfl, rfl, _⟩ := DataW.trod_string ht hx
      simp only [DataW.weights, List.all_cons, List.all_nil, Bool.and_true, decide_eq_true_eq] at hw
      exact ⟨by simpa using (beq_iff_eq.1 hp).symm, _, .prim rfl .nil, ⟨s, rfl, by simpa using hw⟩, rfl⟩
    · rename_i e ht
      simp only [Bool.and_eq_true, decide_eq_true_eq, beq_iff_eq] at hp
      obtain ⟨⟨hp1, hp2⟩, hp3⟩ := hp
      rcases DataW.trod_slice ht hx with ⟨rfl, rfl⟩ | ⟨a, len, cap, elems, rest, n, rfl, rfl, rfl, _, hlc, hcap, hel, hget, _, _⟩
      · exact ⟨by simp [hp3], _, .ro0 (fun _ => rfl) .nil, ⟨0, [], rfl, by simp, .nil⟩, rfl⟩
      · refine ⟨by simp [hp3], ?_⟩
        have hw' : (elems.map (·.1)).length * P.bytesOf e ≤ reachBytes ∧ ∀ y ∈ elems, (y.1.weights P e).all (· ≤ reachBytes) = true := by
          simp only [DataW.weights, ht, List.all_cons, List.all_append, Bool.and_eq_true, decide_eq_true_eq] at hw
          refine ⟨Nat.le_trans (Nat.mul_le_mul_right _ (by simp)) hw.1, ?_⟩
          have h2 := hw.2.1
          clear hget hel hw hx
          induction elems with
          | nil => intro y hy; cases hy
          | cons z elems ih =>
            simp only [List.map_cons, DataW.weightsAll, List.all_append, Bool.and_eq_true] at h2
            intro y hy
            rcases List.mem_cons.1 hy with rfl | hy
            · exact h2.1
            · exact ih h2.2 y hy
        -- element by element
        have one : ∀ i, i < len → ∃ us l, us.length = P.cellsOf e ∧ (∀ (j : Nat) v, us[j]? = some v → w.cell? ((a.add (i * P.cellsOf e)).add j) = some v) ∧ Rep (fun b => b < w.heap.size) noU noL w us l [] ∧ fitN P d e l ∧ closedL l = true := by
          intro i hi
          have hg := hget i hi
          rw [List.getElem?_eq_getElem (by omega)] at hg
          obtain ⟨us, h1, h2⟩ := Option.bind_eq_some_iff.1 hg
          obtain ⟨h3, h4⟩ := cells?_some h1
          obtain ⟨_, l, h5, h6, h7⟩ := fit_of_trod d e n us _ hp1 h2 (hw'.2 _ (List.getElem_mem _))
          exact ⟨us, l, h3, h4, h5, h6, h7⟩
        by_cases hz : len = 0
        · subst hz
          exact ⟨_, .ro0 (fun e => by cases e) .nil, ⟨0, [], rfl, by simp, .nil⟩, rfl⟩
        obtain ⟨us0, _, hu0, hc0, _⟩ := one 0 (by omega)
        have hu00 : ∃ v, us0[0]? = some v := ⟨_, List.getElem?_eq_getElem (by omega)⟩
        obtain ⟨v0, hv0⟩ := hu00
        have h00 := hc0 0 v0 hv0
        simp only [Nat.zero_mul] at h00
        have ha0 : (a.add 0).add 0 = a := by simp [Addr.add]
        rw [ha0] at h00
        obtain ⟨hs, hblk⟩ := cell_spot h00
        obtain ⟨b, o, sp⟩ := a
        simp only at hs
        subst hs
        -- all elements from `i` on
        have all : ∀ m i, i + m = len → ∃ us l, us.length = m * P.cellsOf e ∧ w.rangeAt b (o + i * P.cellsOf e) us ∧ Rep (fun b => b < w.heap.size) noU noL w us l [] ∧ Reps (fitN P d e) m l ∧ closedL l = true := by
          intro m
          induction m with
          | zero => intro i _; exact ⟨[], [], by simp, rangeAt_nil _ _ _, .nil, .nil, rfl⟩
          | succ m ih =>
            intro i hi
            obtain ⟨us1, l1, g1, g2, g3, g4, g5⟩ := one i (by omega)
            obtain ⟨us2, l2, k1, k2, k3, k4, k5⟩ := ih (i + 1) (by omega)
            refine ⟨us1 ++ us2, l1 ++ l2, by simp [g1, k1, Nat.succ_mul, Nat.add_comm], rangeAt_append (fun j v hj => ?_) ?_, by simpa using g3.append k3, .cons g4 k4, by rw [closedL_append, g5, k5]; rfl⟩
            · have := g2 j v hj
              rw [Addr.add_mid, Addr.add_mid] at this; exact this
            · rw [g1, Nat.add_assoc, ← Nat.succ_mul]; exact k2
        obtain ⟨us, l, g1, g2, g3, g4, g5⟩ := all len 0 (by omega)
        rw [Nat.zero_mul, Nat.add_zero] at g2
        have hl := g3.length
        have := @Rep.ro (fun b => b < w.heap.size) noU noL w b o len cap (P.cellsOf e) l us [] [] [] (fun _ => hblk) (by omega) hlc g2 g5 g3 .nil
        exact ⟨_, this, ⟨len, l, rfl, by simpa [hel] using hw'.1, g4⟩, by simp [closedL, Cell.closed, g5]⟩
    · rename_i fs ht
      simp only [Bool.and_eq_true] at hp
      obtain ⟨hp1, hp2⟩ := hp
      obtain ⟨xs, n, rfl, rfl, hl, hxs, hget⟩ := DataW.trod_struct ht hx
      refine ⟨hl, ?_⟩
      simp only [DataW.weights, ht] at hw
      have go : ∀ (fl : List Field) (ys : List (DataW H × List MemPlace)) (off : Nat), fieldsOK P off fl cs.length = true → fl.all (fun f => plainN P d f.type) = true → ys.length = fl.length → off ≤ cs.length →
          (∀ (i : Nat) (f : Field), fl[i]? = some f → DataW.trod enc P w 0 (fun _ => true) true n f.type ((cs.drop f.offset).take (P.cellsOf f.type)) = ys[i]?) →
          (DataW.weightsEach P (fl.map (·.type)) (ys.map (·.1))).all (· ≤ reachBytes) = true →
          ∃ l, Rep (fun b => b < w.heap.size) noU noL w (cs.drop off) l [] ∧ Each (fun (f : Field) l => fitN P d f.type l) fl l ∧ closedL l = true := by
        intro fl
        induction fl with
        | nil =>
          intro ys off h1 _ _ _ _ _
          simp only [fieldsOK, beq_iff_eq] at h1
          exact ⟨[], by rw [h1, List.drop_length]; exact .nil, .nil, rfl⟩
        | cons f fl ih =>
          intro ys off h1 h2 h3 h4 h5 h6
          match ys, h3 with
          | y :: ys, h3 =>
          simp only [fieldsOK, Bool.and_eq_true, beq_iff_eq] at h1
          obtain ⟨rfl, h1⟩ := h1
          simp only [List.all_cons, Bool.and_eq_true] at h2
          simp only [List.map_cons, DataW.weightsEach, List.all_append, Bool.and_eq_true] at h6
          have hf := h5 0 f rfl
          simp only [List.getElem?_cons_zero] at hf
          obtain ⟨k1, l1, k2, k3, k4⟩ := fit_of_trod d f.type n _ y h2.1 hf h6.1
          simp only [List.length_take, List.length_drop] at k1
          have hz : f.offset + P.cellsOf f.type ≤ cs.length := by omega
          obtain ⟨l2, m2, m3, m4⟩ := ih ys (f.offset + P.cellsOf f.type) h1 h2.2 (by simpa using h3) hz (fun i g hg => h5 (i + 1) g hg) h6.2
          refine ⟨l1 ++ l2, ?_, .cons k3 m3, by rw [closedL_append, k4, m4]; rfl⟩
          have := k2.append m2
          rw [← List.drop_drop, List.take_append_drop] at this
          simpa using this
      obtain ⟨l, g1, g2, g3⟩ := go fs.toList xs 0 (by rw [hl]; exact hp1) hp2 (by simpa using hxs) (Nat.zero_le _) (fun i f hf => hget i f (by simpa using hf)) hw
      exact ⟨l, by simpa using g1, g2, g3⟩
    · cases hp

/-- How an argument of a law lies: its cells, and whether it is a struct. -/
def rowB (P : Program) (t : TypeId) : Bool := match P.underlying t with | some (.struct _) => true | _ => false

theorem rv_of_rep {S U : Nat → Prop} {L : Nat → Nat × Nat} {r : Reach} {base d : Nat} {t : TypeId} {v : Value} {l : List Cell} (hp : plainN P d t = true) (hok : Value.okWide P w r base t v) (hr : Rep S U L w v.cells.toList l []) :
    RV S U L w v (rowB P t, l) := by
  cases d with
  | zero => simp [plainN] at hp
  | succ d =>
    unfold plainN at hp
    unfold rowB
    have one : ∀ {x : Value}, x.cells.toList = [x] → v = x → RV S U L w v (false, l) := fun {x} e1 e2 => by
      subst e2; rw [e1] at hr; exact hr
    unfold Value.okWide at hok
    cases ht : P.underlying t with
    | none => rw [ht] at hp; cases hp
    | some td =>
      rw [ht] at hp hok
      cases td with
      | struct fs =>
        obtain ⟨cs, rfl, _, _⟩ := hok
        exact ⟨cs, rfl, by simpa [Value.cells] using hr⟩
      | bool => simp only [Cell.okWide, Cell.ok, ht] at hok; cases v <;> simp at hok <;> exact one rfl rfl
      | int k => simp only [Cell.okWide, Cell.ok, ht] at hok; cases v <;> simp at hok <;> exact one rfl rfl
      | string => simp only [Cell.okWide, Cell.ok, ht] at hok; cases v <;> simp at hok <;> exact one rfl rfl
      | slice e => simp only [Cell.okWide, Cell.ok, ht] at hok; cases v <;> simp at hok <;> exact one rfl rfl
      | _ => cases hp

/-- The arguments of a law. -/
inductive FitAll (P : Program) (d : Nat) : List TypeId → List Arg → Prop
  | nil : FitAll P d [] []
  | cons {t l ts as} : fitN P d t l → FitAll P d ts as → FitAll P d (t :: ts) (.val (rowB P t) l :: as)

theorem fitAll_of {r : Reach} {base d : Nat} : ∀ (ts : List TypeId) (vs : List Value) (ds : List (DataW H)) (ps : List MemPlace), ts.all (plainN P d) = true → DataW.TrodAll enc P w 0 (fun _ => true) true ts vs ds ps →
    (∀ (j : Nat) t v, ts[j]? = some t → vs[j]? = some v → Value.okWide P w r base t v) → (DataW.weightsEach P ts ds).all (· ≤ reachBytes) = true →
    ∃ as, FitAll P d ts as ∧ as.length = vs.length ∧ ∀ (j : Nat) v a, vs[j]? = some v → as[j]? = some a → ∃ b l, a = .val b l ∧ Rep (fun b => b < w.heap.size) noU noL w v.cells.toList l [] ∧ RV (fun b => b < w.heap.size) noU noL w v (b, l)
  | [], [], ds, ps, _, _, _, _ => ⟨[], .nil, rfl, fun j v a h => by simp at h⟩
  | t :: ts, v :: vs, dd :: ds, ps, hp, ht, hok, hw => by
    obtain ⟨p, q, ⟨fuel, h1⟩, h2, rfl⟩ := ht
    simp only [List.all_cons, Bool.and_eq_true] at hp
    simp only [DataW.weightsEach, List.all_append, Bool.and_eq_true] at hw
    obtain ⟨_, l, k1, k2, _⟩ := fit_of_trod d t fuel _ _ hp.1 h1 hw.1
    obtain ⟨as, g1, g2, g3⟩ := fitAll_of ts vs ds q hp.2 h2 (fun j t v a b => hok (j + 1) t v a b) hw.2
    refine ⟨_, .cons k2 g1, by simp [g2], fun j u a hj ha => ?_⟩
    cases j with
    | zero =>
      obtain rfl := Option.some.inj hj
      obtain rfl := Option.some.inj ha
      exact ⟨_, _, rfl, k1, rv_of_rep hp.1 (hok 0 t _ rfl rfl) k1⟩
    | succ j => exact g3 j u a hj ha
  | [], _ :: _, _, _, _, h, _, _ => by simp [DataW.TrodAll] at h
  | _ :: _, [], _, _, _, h, _, _ => by simp [DataW.TrodAll] at h
  | _ :: _, _ :: _, [], _, _, h, _, _ => by simp [DataW.TrodAll] at h

/-- A law, called. -/
theorem call_law {f : FuncId} {as : List Arg} {vs : Array Value} (hlen : as.length = vs.size) (hv : ∀ (j : Nat) v a, vs.toList[j]? = some v → as[j]? = some a → ∃ b l, a = .val b l ∧ Rep (fun b => b < w.heap.size) noU noL w v.cells.toList l [] ∧ RV (fun b => b < w.heap.size) noU noL w v (b, l))
    {vals : List (Bool × List Cell)} {outs : List (Option (List Cell))} (h : CallOK P f as vals outs) :
    Calls P f vs w fun e w' => ∃ xs, e = .returned (packV xs) ∧ (∃ G S, RVs S w' xs vals G) ∧ Below w.heap.size w w' := by
  have hnode : ∀ j, ndOf (as.map Arg.node) j = none := by
    intro j
    rw [node_get]
    cases ha : as[j]? with
    | none => rfl
    | some a =>
      have hj : j < vs.toList.length := by have := (List.getElem?_eq_some_iff.1 ha).1; simp; omega
      obtain ⟨b, l, rfl, _⟩ := hv j _ a (List.getElem?_eq_getElem hj) ha
      rfl
  have own : ∀ j, Own (ndOf (as.map Arg.node)) noL (fun _ => []) j = [] := fun j => by simp [Own, hnode]
  let k : Base := ⟨w, fun b => b < w.heap.size, []⟩
  have m : Mem k (ndOf (as.map Arg.node)) w noL (fun _ => []) (· < as.length) :=
    ⟨(fun b hb => ⟨hb, by simp [k]⟩), (fun b hb => by cases hb), (fun id nd hid => by rw [hnode] at hid; cases hid), (fun j => by rw [own]; exact List.nodup_nil), (fun i j _ b hb => by rw [own] at hb; cases hb), (fun j b hb => by rw [own] at hb; cases hb),
      (fun _ _ _ => rfl), rfl, rfl, rfl, Grows.refl _⟩
  have hS : ∀ b, b < w.heap.size → SS k (ndOf (as.map Arg.node)) noL (fun _ => []) w b := fun b hb => ⟨.inl hb, hb, fun j => by rw [own]; simp⟩
  refine (h k noL (fun _ => []) vs ⟨by omega, fun _ => hlen.symm⟩ m fun i => ?_).mono fun e w' he => ?_
  · have hg : (argTVs 0 as).getD i .undef = (((as[i]?).map fun a => a.tv i)).getD .undef := by
      rw [List.getD_eq_getElem?_getD, argTVs_get]; simp
    rw [hg]
    cases ha : as[i]? with
    | none => trivial
    | some a =>
      have hj : i < vs.toList.length := by have := (List.getElem?_eq_some_iff.1 ha).1; simp; omega
      obtain ⟨b, l, rfl, hr, hrv⟩ := hv i _ a (List.getElem?_eq_getElem hj) ha
      have hvi : vs.getD i undef = vs.toList[i] := by simp at hj; simp [Array.getD_eq_getD_getElem?, hj]
      rw [hvi]
      simp only [Option.map_some, Option.getD_some, Arg.tv]
      have free : ∀ {us : List Value}, Rep (fun b => b < w.heap.size) noU noL w us l [] → Rep (SS k (ndOf (as.map Arg.node)) noL (fun _ => []) w) (· < as.length) noL w us l [] := fun r =>
        r.carry (fun b hb => ⟨hS b hb, rfl⟩) (fun i hi => hi.elim) (by simp) (Grows.refl _)
      cases b with
      | false => exact free hrv
      | true => obtain ⟨ws, e, hrv⟩ := hrv; exact ⟨ws, e, free hrv⟩
  · obtain ⟨v, rfl, xs, G, Fo, rfl, fin⟩ := he
    exact ⟨xs, rfl, ⟨G, _, fin.res⟩, fin.os, fin.tape, fin.output, fin.grows.1, fun b hb => fin.frame b hb (by simp [k])⟩

theorem trodAll_back {W W' : World} (hl : laidOutB P = true) (hb : Below W.heap.size W W') : ∀ (ts : List TypeId) (vs : List Value) (ds : List (DataW H)) (ps : List MemPlace), (∀ t ∈ ts, P.readableRec t = true ∧ t < P.types.size) →
    DataW.TrodAll enc P W 0 (fun _ => true) true ts vs ds ps → (∀ x ∈ ps, x.block < W.heap.size) → DataW.TrodAll enc P W' 0 (fun b => decide (b < W.heap.size)) true ts vs ds ps
  | [], [], [], ps, _, h, _ => h
  | t :: ts, v :: vs, d :: ds, ps, ht, h, hlt => by
    obtain ⟨p, q, h1, h2, rfl⟩ := h
    exact ⟨p, q, Below.trod hl (ht t (by simp)).1 (ht t (by simp)).2 h1 hb (fun x hx => hlt x (by simp [hx])), trodAll_back hl hb ts vs ds q (fun u hu => ht u (by simp [hu])) h2 (fun x hx => hlt x (by simp [hx])), rfl⟩
  | [], [], _ :: _, _, _, h, _ => by simp [DataW.TrodAll] at h
  | [], _ :: _, _, _, _, h, _ => by simp [DataW.TrodAll] at h
  | _ :: _, [], _, _, _, h, _ => by simp [DataW.TrodAll] at h
  | _ :: _, _ :: _, [], _, _, h, _ => by simp [DataW.TrodAll] at h
end

/-- THE ROW OF A LAW. -/
theorem law_row {C : Checked} {os : Os} {f : FuncId} {fn : Func} {s : ChangeSpec} {fresh : Bool} {H : Type} {enc : TypeId × Value → H} {d : Nat} {rt : TypeId}
    (own : ownKnob C.prog.godebug = none) (started : os.Started) (noInit : C.prog.inits.idxOf? f = none) (hfn : C.prog.funcs[f]? = some fn)
    (witness : ∃ (w : World) (tape : Tape) (i : Input), w.os = os ∧ (w.forCall tape i).Shaped C.prog ∧ i.vars = [] ∧ Input.okWide C.prog (w.forCall tape i) .any w.heap.size f i ∧
      s.pre6 enc C.prog fn [] false (w.forCall tape i).memory i.args ∧ ({} : Assume).holds C.prog (lone (Frame.enter C.prog f i.args .normal) [] (w.forCall tape i)))
    (laid : laidOutB C.prog = true) (hvars : s.vars = []) (hread : ∀ t ∈ fn.params.toList, C.prog.readableRec t = true ∧ t < C.prog.types.size) (hplain : fn.params.toList.all (plainN C.prog d) = true)
    (hres : fn.resultTypes = #[rt]) (hbool : C.prog.underlying rt = some .bool)
    (hspec : ∀ ds : List (DataW H), ds.length = fn.params.size → s.fn H ds = { results := [.lit (.bool true)], args := ds })
    (hlaw : ∀ as, FitAll C.prog d fn.params.toList as → ∃ outs, CallOK C.prog f as [(false, [.prim (.bool true)])] outs) :
    ReturnsInHanded {} C os f .any (s.pre6 enc C.prog fn [] false) (s.post enc C.prog fn false fresh false false) := by
  refine returnsInHanded_of_change_sized own started noInit hfn witness ?_
  intro W base args ds gs before hval hW _ hsz _
  have hW' := hW
  obtain ⟨p, q, hA, hV, rfl, hfz, hnd⟩ := hW
  rw [hvars] at hV
  obtain ⟨rfl, rfl⟩ := trodVars_none hV
  have hsz' : (DataW.weightsEach C.prog fn.params.toList ds).all (· ≤ reachBytes) = true := by
    have : s.plain.varTypes C.prog = [] := by simp [ChangeSpec.plain, DataSpec.varTypes, hvars]
    simpa [this] using hsz
  obtain ⟨as, g1, g2, g3⟩ := fitAll_of (r := .any) (base := base) (d := d) fn.params.toList args.toList ds p hplain hA (fun j t v ht hv => hval j t v (by simpa using ht) (by simpa using hv)) hsz'
  obtain ⟨outs, hc⟩ := hlaw as g1
  refine (call_law (w := W) (by simpa using g2) g3 hc).mono fun e W' ⟨xs, he, ⟨G, S, hr⟩, bel⟩ => ?_
  subst he
  have hx : xs = [.bool true] := by
    match xs, hr with
    | [x], hr =>
      obtain ⟨G1, G2, _, h1, _⟩ := hr
      have h1' : Rep S noU noL W' [x] [.prim (.bool true)] G1 := h1
      cases h1' with
      | prim _ _ => rfl
    | [], hr => exact hr.elim
    | _ :: _ :: _, hr => obtain ⟨_, _, _, _, h2⟩ := hr; exact h2.elim
  subst hx
  have hdl : ds.length = fn.params.size := by
    have : ∀ (ts : List TypeId) (vs : List Value) (ds : List (DataW H)) (ps : List MemPlace), DataW.TrodAll enc C.prog W 0 (fun _ => true) true ts vs ds ps → ds.length = ts.length := by
      intro ts
      induction ts with
      | nil => intro vs ds ps h; cases vs <;> cases ds <;> simp [DataW.TrodAll] at h ⊢
      | cons t ts ih => intro vs ds ps h; cases vs <;> cases ds <;> simp [DataW.TrodAll] at h ⊢; obtain ⟨_, _, _, h, _⟩ := h; exact ih _ _ _ h
    simpa using this _ _ _ _ hA
  have hsp : s.fn H (ds ++ []) = { results := [.lit (.bool true)], args := ds } := by rw [List.append_nil]; exact hspec ds hdl
  refine ⟨_, rfl, ds, [], p ++ [], [], p, [], hW', ?_, ?_, ?_, bel.frame _, fun h => by cases h⟩
  · rw [hsp, hres]
    exact trodAll_mk1 (shut_bool hbool _)
  · rw [hsp]
    exact trodAll_back laid bel _ _ _ _ hread hA (fun x hx => by simpa using hW'.lt x (by simp [hx]))
  · rw [hsp, hvars]
    rfl

end Go.Proofs.Ytacfohamlkbpjaa
