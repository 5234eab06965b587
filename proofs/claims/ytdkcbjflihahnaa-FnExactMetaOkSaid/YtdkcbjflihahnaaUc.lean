/- What is to be shown of code, so that it does what is asked. -/
import Derived.Test.YtdkcbjflihahnaaUb
namespace Go.Proofs.Ytdkcbjflihahnaa
open Go Go.RowKit

/-- A T state, newest entries first. -/
structure W where
  t : List (Nat × TV)
  h : List (Nat × Option Node)
  nx : Nat
  tn : Nat

def look {α : Type} (d : α) : List (Nat × α) → Nat → α
  | [], _ => d
  | (i, v) :: l, n => match Nat.beq i n with
    | true => v
    | false => look d l n

def W.tv (τ : W) (i : Nat) : TV := look .undef τ.t i
def W.nd (τ : W) (i : Nat) : Option Node := look none τ.h i

def evW (τ : W) : Operand → TV
  | .tmp i => τ.tv i
  | .const v => if v.oneCell' then .v false [ofV v] else .undef
  | _ => .undef

def addU : Upds → List (Nat × Option Node) → List (Nat × Option Node)
  | [], h => h
  | p :: l, h => addU l (p :: h)

def nxU : Upds → Nat → Nat
  | [], n => n
  | p :: l, n => nxU l (max n (p.1 + 1))

def W.app (τ : W) (d : Option Nat) (r : TV) (l : Upds) : W :=
  ⟨match d with | some d => (d, r) :: τ.t | none => τ.t, addU l τ.h, nxU l τ.nx, τ.tn⟩

structure Sim (τ : W) (σ : St) : Prop where
  tv : ∀ i, σ.tv i = τ.tv i
  nd : ∀ i, σ.nd i = τ.nd i
  nx : σ.h.length = τ.nx
  tn : σ.t.length = τ.tn

theorem look_cons {α : Type} (d : α) (i : Nat) (v : α) (l : List (Nat × α)) (n : Nat) : look d ((i, v) :: l) n = if i = n then v else look d l n := by
  have e1 : look d ((i, v) :: l) n = match Nat.beq i n with | true => v | false => look d l n := rfl
  rw [e1]
  cases h : Nat.beq i n with
  | true => rw [if_pos (Nat.eq_of_beq_eq_true h)]
  | false => rw [if_neg (fun e => by subst e; simp at h)]

theorem look_addU : ∀ (l : Upds) (h : List (Nat × Option Node)) (x : Nat), look none (addU l h) x = ups (look none h) l x
  | [], _, _ => rfl
  | p :: l, h, x => by
    show look none (addU l (p :: h)) x = ups (upd (look none h) p.1 p.2) l x
    rw [look_addU l (p :: h) x]
    refine ups_congr ?_
    obtain ⟨i, n⟩ := p
    rw [look_cons]
    unfold upd
    by_cases e : i = x
    · rw [if_pos e, if_pos e.symm]
    · rw [if_neg e, if_neg (fun q => e q.symm)]

theorem Sim.ev {τ : W} {σ : St} (s : Sim τ σ) (x : Operand) : evT σ.t x = evW τ x := by
  cases x with
  | tmp i => exact s.tv i
  | _ => rfl

theorem foldl_nx : ∀ (l : Upds) (h : List (Option Node)), (l.foldl (fun h p => setH h p.1 p.2) h).length = nxU l h.length
  | [], _ => rfl
  | p :: l, h => by
    show (l.foldl _ (setH h p.1 p.2)).length = nxU l (max h.length (p.1 + 1))
    rw [foldl_nx l, setH_length]

theorem Sim.app {τ : W} {σ : St} (s : Sim τ σ) {d : Option Nat} (hd : ∀ x, d = some x → x < τ.tn) (r : TV) (l : Upds) : Sim (τ.app d r l) (σ.app d r l) := by
  refine ⟨fun i => ?_, fun i => ?_, ?_, ?_⟩
  · cases d with
    | none => exact s.tv i
    | some d =>
      have hlt : d < σ.t.length := by rw [s.tn]; exact hd d rfl
      show (σ.t.set d r).getD i .undef = look .undef ((d, r) :: τ.t) i
      rw [look_cons, List.getD_eq_getElem?_getD, List.getElem?_set]
      by_cases e : d = i
      · rw [if_pos e, if_pos e, if_pos hlt]; rfl
      · rw [if_neg e, if_neg e]
        have := s.tv i
        unfold St.tv W.tv at this
        rw [List.getD_eq_getElem?_getD] at this; exact this
  · rw [nd_app]
    show ups σ.nd l i = look none (addU l τ.h) i
    rw [look_addU]
    exact ups_congr (s.nd i)
  · show (l.foldl (fun h p => setH h p.1 p.2) σ.h).length = nxU l τ.nx
    rw [foldl_nx, s.nx]
  · rw [tv_app_len]; exact s.tn

/-! ### Order -/
def nodesW (τ : W) (o : Oper) : List Nat := o.op.operands.toList.flatMap fun x => (evW τ x).ids

def fpsW (ops : Array Oper) : W → List (TV × Upds) → Nat → List FP
  | _, [], _ => []
  | τ, (r, l) :: us, i =>
    (match ops[i]? with
    | some o => ⟨tmpsR ops o, o.dst.toList, nodesW τ o, l.map (·.1)⟩
    | none => ⟨[], [], [], []⟩) :: fpsW ops (τ.app (dstOf ops i) r l) us (i + 1)

/-! ### Values told by their form -/
def fvs : List (Bool × List Cell) → (List (Bool × List Cell) → Prop) → Prop
  | [], K => K []
  | (b, l) :: vs, K => fl l fun l => fvs vs fun vs => K ((b, l) :: vs)

theorem fvs_ok : ∀ {l : List (Bool × List Cell)} {K : List (Bool × List Cell) → Prop}, fvs l K → K l
  | [], _, h => h
  | (b, l) :: vs, K, h => fvs_ok (l := vs) (K := fun vs => K ((b, l) :: vs)) (fl_ok (K := fun l => fvs vs fun vs => K ((b, l) :: vs)) h)

def fu : Upds → (Upds → Prop) → Prop
  | [], K => K []
  | (i, n) :: l, K => match n with
    | none => fu l fun l => K ((i, none) :: l)
    | some (o, cs) => fu l fun l => K ((i, some (o, cs)) :: l)

theorem fu_ok : ∀ {l : Upds} {K : Upds → Prop}, fu l K → K l
  | [], _, h => h
  | (i, none) :: l, K, h => fu_ok (l := l) (K := fun l => K ((i, none) :: l)) h
  | (i, some (o, cs)) :: l, K, h => fu_ok (l := l) (K := fun l => K ((i, some (o, cs)) :: l)) h

section
variable (P : Program) (X : FuncId → List Arg → List (Bool × List Cell) → List (Option (List Cell)) → Prop) (md : FuncId → List Mode)

def callW (nd : Nat → Option Node) (nid : Nat) (f : FuncId) (xs : List TV) (K : KT) : Prop :=
  match enterOK P f, argsT nd (md f) xs with
  | true, some (as', sn, ow) => match decide ((ow.filterMap id).Nodup ∧ ∀ x ∈ sn, some x ∉ ow) with
    | true => ∃ as vals outs, as' = as ∧ D P X (.call f as vals outs) ∧ (sn = [] ∨ pureV vals outs = true) ∧ (ownsV vals).length ≤ 16 ∧
        fvs (placeV nid vals) fun vs => fu (backU ow outs ++ newU nid (ownsV vals)) fun l => fv (resTV vs) fun r => K r l
    | false => False
  | _, _ => False

def runW (τ : W) (nid : Nat) (o : Oper) (K : KT) : Prop :=
  match o.op with
  | .call c => match c.callee with
    | .value (.func f) => callW P X md τ.nd nid f (c.args.toList.map (evW τ)) K
    | _ => effW P τ.nd nid (evW τ) o.op K
  | op => effW P τ.nd nid (evW τ) op K

def addK : Upds → List (Nat × Option Node) → (List (Nat × Option Node) → Prop) → Prop
  | [], h, K => K h
  | (i, n) :: l, h, K => addK l ((i, n) :: h) K

def nxK : Upds → Nat → (Nat → Prop) → Prop
  | [], n, K => K n
  | (i, _) :: l, n, K => match Nat.ble (i + 1) n with
    | true => nxK l n K
    | false => nxK l (i + 1) K

theorem addK_eq : ∀ (l : Upds) (h : List (Nat × Option Node)) (K : List (Nat × Option Node) → Prop), addK l h K = K (addU l h)
  | [], _, _ => rfl
  | (i, n) :: l, h, K => addK_eq l ((i, n) :: h) K

theorem nxK_eq : ∀ (l : Upds) (n : Nat) (K : Nat → Prop), nxK l n K = K (nxU l n)
  | [], _, _ => rfl
  | (i, _) :: l, n, K => by
    show (match Nat.ble (i + 1) n with | true => nxK l n K | false => nxK l (i + 1) K) = K (nxU l (max n (i + 1)))
    cases h : Nat.ble (i + 1) n with
    | true => have := Nat.le_of_ble_eq_true h; rw [Nat.max_eq_left this]; exact nxK_eq l n K
    | false => have : ¬ i + 1 ≤ n := fun q => by rw [Nat.ble_eq_true_of_le q] at h; cases h
               rw [Nat.max_eq_right (by omega)]; exact nxK_eq l (i + 1) K

def nidW (base : Option Nat) (nx : Nat) (i : Nat) : Nat :=
  match base with
  | none => nx
  | some b => b + 16 * i

def baseW (base : Option Nat) (nx i : Nat) (K : Nat → Prop) : Prop :=
  match base with
  | none => K nx
  | some b => K (b + 16 * i)

theorem baseW_eq (base : Option Nat) (nx i : Nat) (K : Nat → Prop) : baseW base nx i K = K (nidW base nx i) := by cases base <;> rfl

/-- Behind one operation. -/
def nextW (t : List (Nat × TV)) (h : List (Nat × Option Node)) (nx tn : Nat) (d : Option Nat) (K : W → List (TV × Upds) → Prop) (go : W → (W → List (TV × Upds) → Prop) → Prop) : KT := fun r l =>
  addK l h fun h' => nxK l nx fun nx' => match d with
    | none => go ⟨t, h', nx', tn⟩ fun τ' us => K τ' ((r, l) :: us)
    | some d => match Nat.blt d tn with
      | true => go ⟨(d, r) :: t, h', nx', tn⟩ fun τ' us => K τ' ((r, l) :: us)
      | false => False

/-- One operation, with its guard. -/
def guardW (ops : Array Oper) (base : Option Nat) (i : Nat) (o : Oper) (t : List (Nat × TV)) (h : List (Nat × Option Node)) (nx tn : Nat) (next : KT) : Prop :=
  match o.guard with
  | none => baseW base nx i fun nid => runW P X md ⟨t, h, nx, tn⟩ nid o next
  | some (j, want) => match (ops[j]?).bind (·.dst) with
    | some d => match look .undef t d with
      | .v false [.prim (.bool b)] => match b, want with
        | true, true => baseW base nx i fun nid => runW P X md ⟨t, h, nx, tn⟩ nid o next
        | false, false => baseW base nx i fun nid => runW P X md ⟨t, h, nx, tn⟩ nid o next
        | _, _ => next (.tup []) []
      | .tup [] => next (.tup []) []
      | _ => False
    | none => False

def wOps (ops : Array Oper) (base : Option Nat) : Nat → List Oper → W → (W → List (TV × Upds) → Prop) → Prop
  | _, [], τ, K => K τ []
  | i, o :: os, τ, K => match τ with
    | ⟨t, h, nx, tn⟩ => guardW P X md ops base i o t h nx tn (nextW t h nx tn o.dst K fun τ' K' => wOps ops base (i + 1) os τ' K')

/-- A step that the machine does not notice. -/
structure WGh (n : Nat) (τ τ' : W) : Prop where
  go : ∀ σ, Sim τ σ → ∃ σ', Sim τ' σ' ∧ Gh n σ σ'

theorem WGh.refl {n : Nat} {τ : W} : WGh n τ τ := ⟨fun σ s => ⟨σ, s, fun _ _ _ _ h => h⟩⟩
theorem WGh.trans {n : Nat} {a b c : W} (h : WGh n a b) (k : WGh n b c) : WGh n a c := ⟨fun σ s => by
  obtain ⟨σ1, s1, g1⟩ := h.go σ s
  obtain ⟨σ2, s2, g2⟩ := k.go σ1 s1
  exact ⟨σ2, s2, fun k' L0 a w hh => g2 k' L0 a w (g1 k' L0 a w hh)⟩⟩

def wCode (n : Nat) : Code → W → (Out → W → Prop) → Prop
  | .skip, τ, K => K .norm τ
  | .ret, τ, K => K .ret τ
  | .exit m, τ, K => K (.exit m) τ
  | .region _ ops draw, τ, K => match draw with
    | false => wOps P X md ops none 0 ops.toList τ fun τ' _ => K .norm τ'
    | true => wOps P X md ops (some τ.nx) 0 ops.toList τ fun τ' us => (orderOK ops ops.size (fpsW ops τ us 0) = true ∧ idsOK ops ops.size τ.nx us = true ∧ afterOK ops = true) ∧ K .norm τ'
  | .seq a b, τ, K => wCode n a τ fun o τ' => match o with
    | .norm => ∃ τ1, WGh n τ' τ1 ∧ wCode n b τ1 K
    | .exit m => K (.exit m) τ'
    | .ret => K .ret τ'
  | .cond c a b, τ, K => match evW τ c with
    | .v false [.prim (.bool t)] => match t with
      | true => wCode n a τ K
      | false => wCode n b τ K
    | _ => False
  | .block id c, τ, K => wCode n c τ fun o τ' => match o with
    | .exit m => match Nat.beq m id with
      | true => K .norm τ'
      | false => K (.exit m) τ'
    | .norm => K .norm τ'
    | .ret => K .ret τ'
  | .loop c, τ, K => ∃ (ι : Type) (I : ι → W) (μ : ι → Nat) (i0 : ι), WGh n τ (I i0) ∧ ∀ i, wCode n c (I i) fun o τ' => match o with
    | .norm => ∃ j, μ j < μ i ∧ WGh n τ' (I j)
    | .exit m => K (.exit m) τ'
    | .ret => K .ret τ'
  | _, _, _ => False
end

end Go.Proofs.Ytdkcbjflihahnaa
