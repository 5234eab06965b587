/- What is to be shown of code, so that it does what is asked. -/
import Derived.Test.YtacfohamlkbpjaaUb
namespace Go.Proofs.Ytacfohamlkbpjaa
open Go Go.RowKit

/-- A T state, newest entries first. -/
structure W where
  t : List (Nat × TV)
  h : List (Nat × Option Node)
  nx : Nat
  tn : Nat

def look {α : Type} (d : α) : List (Nat × α) → Nat → α
  | [], _ => d
  | (i, v) :: l, n => match Nat.beq i n with
    | true => v
    | false => look d l n

def W.tv (τ : W) (i : Nat) : TV := look .undef τ.t i
def W.nd (τ : W) (i : Nat) : Option Node := look none τ.h i

def evW (τ : W) : Operand → TV
  | .tmp i => τ.tv i
  | .const v => if v.oneCell' then .v false [ofV v] else .undef
  | _ => .undef

def addU : Upds → List (Nat × Option Node) → List (Nat × Option Node)
  | [], h => h
  | p :: l, h => addU l (p :: h)

def nxU : Upds → Nat → Nat
  | [], n => n
  | p :: l, n => nxU l (max n (p.1 + 1))

def W.app (τ : W) (d : Option Nat) (r : TV) (l : Upds) : W :=
  ⟨match d with | some d => (d, r) :: τ.t | none => τ.t, addU l τ.h, nxU l τ.nx, τ.tn⟩

structure Sim (τ : W) (σ : St) : Prop where
  tv : ∀ i, σ.tv i = τ.tv i
  nd : ∀ i, σ.nd i = τ.nd i
  nx : σ.h.length = τ.nx
  tn : σ.t.length = τ.tn

theorem look_cons {α : Type} (d : α) (i : Nat) (v : α) (l : List (Nat × α)) (n : Nat) : look d ((i, v) :: l) n = if i = n then v else look d l n := by
  have e1 : look d ((i, v) :: l) n = match Nat.beq i n with | true => v | false => look d l n := rfl
  rw [e1]
  cases h : Nat.beq i n with
  | true => rw [if_pos (Nat.eq_of_beq_eq_true h)]
  | false => rw [if_neg (fun e => by subst e; simp at h)]

theorem look_addU : ∀ (l : Upds) (h : List (Nat × Option Node)) (x : Nat), look none (addU l h) x = ups (look none h) l x
  | [], _, _ => rfl
  | p :: l, h, x => by
    show look none (addU l (p :: h)) x = ups (upd (look none h) p.1 p.2) l x
    rw [look_addU l (p :: h) x]
    refine ups_congr ?_
    obtain ⟨i, n⟩ := p
    rw [look_cons]
    unfold upd
    by_cases e : i = x
    · rw [if_pos e, if_pos e.symm]
    · rw [if_neg e, if_neg (fun q => e q.symm)]

theorem Sim.ev {τ : W} {σ : St} (s : Sim τ σ) (x : Operand) : evT σ.t x = evW τ x := by
  cases x with
  | tmp i => exact s.tv i
  | _ => rfl

theorem foldl_nx : ∀ (l : Upds) (h : List (Option Node)), (l.foldl (fun h p => setH h p.1 p.2) h).length = nxU l h.length
  | [], _ => rfl
  | p :: l, h => by
    show (l.foldl _ (setH h p.1 p.2)).length = nxU l (max h.length (p.1 + 1))
    rw [foldl_nx l, setH_length]

theorem Sim.app {τ : W} {σ : St} (s : Sim τ σ) {d : Option Nat} (hd : ∀ x, d = some x → x < τ.tn) (r : TV) (l : Upds) : Sim (τ.app d r l) (σ.app d r l) := by
  refine ⟨fun i => ?_, fun i => ?_, ?_, ?_⟩
  · cases d with
    | none => exact s.tv i
    | some d =>
      have hlt : d < σ.t.length := by rw [s.tn]; exact hd d rfl
      show (σ.t.set d r).getD i .undef = look .undef ((d, r) :: τ.t) i
      rw [look_cons, List.getD_eq_getElem?_getD, List.getElem?_set]
      by_cases e : d = i
      · rw [if_pos e, if_pos e, if_pos hlt]; rfl
      · rw [if_neg e, if_neg e]
        have := s.tv i
        unfold St.tv W.tv at this
        rw [List.getD_eq_getElem?_getD] at this; exact this
  · rw [nd_app]
    show ups σ.nd l i = look none (addU l τ.h) i
    rw [look_addU]
    exact ups_congr (s.nd i)
  · show (l.foldl (fun h p => setH h p.1 p.2) σ.h).length = nxU l τ.nx
    rw [foldl_nx, s.nx]
  · rw [tv_app_len]; exact s.tn

/-! ### Order -/
def nodesW (τ : W) (o : Oper) : List Nat := o.op.operands.toList.flatMap fun x => (evW τ x).ids

def fpsW (ops : Array Oper) : W → List (TV × Upds) → Nat → List FP
  | _, [], _ => []
  | τ, (r, l) :: us, i =>
    (match ops[i]? with
    | some o => ⟨tmpsR ops o, o.dst.toList, nodesW τ o, l.map (·.1)⟩
    | none => ⟨[], [], [], []⟩) :: fpsW ops (τ.app (dstOf ops i) r l) us (i + 1)

/-! ### Values told by their form -/
def fvs : List (Bool × List Cell) → (List (Bool × List Cell) → Prop) → Prop
  | [], K => K []
  | (b, l) :: vs, K => match b, l with
    | false, [.prim (.bool t)] => (t = true → fvs vs fun vs => K ((false, [.prim (.bool true)]) :: vs)) ∧ (t = false → fvs vs fun vs => K ((false, [.prim (.bool false)]) :: vs))
    | b, l => fl l fun l => fvs vs fun vs => K ((b, l) :: vs)

theorem fvs_ok : ∀ {l : List (Bool × List Cell)} {K : List (Bool × List Cell) → Prop}, fvs l K → K l
  | [], _, h => h
  | (b, l) :: vs, K, h => by
    unfold fvs at h
    split at h
    · rename_i t
      cases t with
      | true => exact fvs_ok (l := vs) (K := fun vs => K ((false, [.prim (.bool true)]) :: vs)) (h.1 rfl)
      | false => exact fvs_ok (l := vs) (K := fun vs => K ((false, [.prim (.bool false)]) :: vs)) (h.2 rfl)
    · exact fvs_ok (l := vs) (K := fun vs => K (_ :: vs)) (fl_ok (K := fun l => fvs vs fun vs => K ((_, l) :: vs)) h)

def fu : Upds → (Upds → Prop) → Prop
  | [], K => K []
  | (i, n) :: l, K => match n with
    | none => fu l fun l => K ((i, none) :: l)
    | some (o, cs) => fu l fun l => K ((i, some (o, cs)) :: l)

theorem fu_ok : ∀ {l : Upds} {K : Upds → Prop}, fu l K → K l
  | [], _, h => h
  | (i, none) :: l, K, h => fu_ok (l := l) (K := fun l => K ((i, none) :: l)) h
  | (i, some (o, cs)) :: l, K, h => fu_ok (l := l) (K := fun l => K ((i, some (o, cs)) :: l)) h

/-! ### Arguments -/
def snapW (nd : Nat → Option Node) : List Nat → List Cell → (List Cell → List Nat → Prop) → Prop
  | _, [], K => K [] []
  | zs, c :: cs, K => match c with
    | .prim v => snapW nd zs cs fun l u => K (.prim v :: l) u
    | .nil => match zs with
      | [] => snapW nd [] cs fun l u => K (.nil :: l) u
      | s :: zs => snapW nd zs cs fun l u => K (.sl false 0 s [] :: l) u
    | .sl false n s x => snapW nd zs cs fun l u => K (.sl false n s x :: l) u
    | .ref id off n s => match nd id with
      | some (o, cs') => (off + n * s ≤ cs'.length ∧ ((cs'.drop off).take (n * s)).all Cell.shal = true) ∧ ∃ x, roifyL ((cs'.drop off).take (n * s)) = x ∧ match o with
        | true => snapW nd zs cs fun l u => K (.sl false n s x :: l) (id :: u)
        | false => snapW nd zs cs fun l u => K (.sl false n s x :: l) u
      | none => False
    | _ => False

theorem snapW_ok {nd : Nat → Option Node} : ∀ {cs : List Cell} {zs : List Nat} {K : List Cell → List Nat → Prop}, snapW nd zs cs K → ∃ l u, snapL nd zs cs = some (l, u) ∧ K l u
  | [], zs, K, h => by cases zs <;> exact ⟨_, _, rfl, h⟩
  | c :: cs, zs, K, h => by
    have step : ∀ {c' : Cell} {i : List Nat}, (∀ s zs', zs = s :: zs' → c ≠ .nil) → snapC nd c = some (c', i) → (∃ l u, snapL nd zs cs = some (l, u) ∧ K (c' :: l) (i ++ u)) → ∃ l u, snapL nd zs (c :: cs) = some (l, u) ∧ K l u := by
      intro c' i hn h1 h2
      obtain ⟨l, u, h3, h4⟩ := h2
      refine ⟨_, _, ?_, h4⟩
      cases zs with
      | nil => simp only [snapL, h1, h3]
      | cons s zs' =>
        cases c with
        | nil => exact absurd rfl (hn s zs' rfl)
        | _ => simp only [snapL, h1, h3]
    unfold snapW at h
    split at h
    · obtain ⟨l, u, h1, h2⟩ := snapW_ok h
      exact step (i := []) (by simp) rfl ⟨l, u, h1, h2⟩
    · split at h
      · obtain ⟨l, u, h1, h2⟩ := snapW_ok h
        exact step (i := []) (fun s zs' e => by cases e) rfl ⟨l, u, h1, h2⟩
      · obtain ⟨l, u, h1, h2⟩ := snapW_ok h
        exact ⟨_, _, by simp only [snapL, h1], h2⟩
    · obtain ⟨l, u, h1, h2⟩ := snapW_ok h
      exact step (i := []) (by simp) rfl ⟨l, u, h1, h2⟩
    · rename_i id off n s
      split at h
      · rename_i o cs' hid
        obtain ⟨hc, x, rfl, h⟩ := h
        split at h
        · obtain ⟨l, u, h1, h2⟩ := snapW_ok h
          exact step (i := [id]) (by simp) (by simp only [snapC, hid]; rw [if_pos hc]; rfl) ⟨l, u, h1, h2⟩
        · obtain ⟨l, u, h1, h2⟩ := snapW_ok h
          exact step (i := []) (by simp) (by simp only [snapC, hid]; rw [if_pos hc]; rfl) ⟨l, u, h1, h2⟩
      · exact h.elim
    · exact h.elim

def argW1 (nd : Nat → Option Node) (m : Mode) (x : TV) (K : Arg → List Nat → Option Nat → Prop) : Prop :=
  match m, x with
  | .val zs, .v b l => snapW nd zs l fun l' i => K (.val b l') i none
  | .own s, .v false [.nil] => K (.own false 0 s []) [] none
  | .own _, .v false [.ptr id off] => match nd id with
    | some (true, cs) => (off = 0 ∧ cs.all Cell.shal = true) ∧ K (.own true 0 0 cs) [] (some id)
    | _ => False
  | .own _, .v false [.ref id off n s] => match nd id with
    | some (true, cs) => (off = 0 ∧ cs.length = n * s ∧ cs.all Cell.shal = true) ∧ K (.own false n s cs) [] (some id)
    | _ => False
  | _, _ => False

theorem argW1_ok {nd : Nat → Option Node} {m : Mode} {x : TV} {K : Arg → List Nat → Option Nat → Prop} (h : argW1 nd m x K) : ∃ a i o, argT nd m x = some (a, i, o) ∧ K a i o := by
  unfold argW1 at h
  split at h
  · obtain ⟨l, u, h1, h2⟩ := snapW_ok h
    exact ⟨_, _, _, by simp only [argT, h1], h2⟩
  · exact ⟨_, _, _, rfl, h⟩
  · split at h
    · rename_i cs hid
      exact ⟨_, _, _, by simp only [argT, hid]; rw [if_pos h.1], h.2⟩
    · exact h.elim
  · split at h
    · rename_i cs hid
      exact ⟨_, _, _, by simp only [argT, hid]; rw [if_pos h.1], h.2⟩
    · exact h.elim
  · exact h.elim

def giveW (nd : Nat → Option Node) : Nat → List Cell → (List Cell → List (Nat × List Cell) → Prop) → Prop
  | _, [], K => K [] []
  | k, c :: l, K => match c with
    | .prim v => giveW nd k l fun l' e => K (.prim v :: l') e
    | .nil => giveW nd k l fun l' e => K (.nil :: l') e
    | .sl false n s x => giveW nd k l fun l' e => K (.sl false n s x :: l') e
    | .ref id off n s => match nd id with
      | some (true, cs) => (off = 0 ∧ cs.length = n * s ∧ cs.all Cell.shal = true) ∧ giveW nd (k + 1) l fun l' e => K (.ref k 0 n s :: l') ((id, cs) :: e)
      | _ => False
    | _ => False

theorem giveW_ok {nd : Nat → Option Node} : ∀ {l : List Cell} {k : Nat} {K : List Cell → List (Nat × List Cell) → Prop}, giveW nd k l K → ∃ l' e, giveL nd k l = some (l', e) ∧ K l' e
  | [], k, K, h => ⟨_, _, rfl, h⟩
  | c :: l, k, K, h => by
    unfold giveW at h
    split at h
    · obtain ⟨l', e, h1, h2⟩ := giveW_ok h; exact ⟨_, _, by simp only [giveL, h1], h2⟩
    · obtain ⟨l', e, h1, h2⟩ := giveW_ok h; exact ⟨_, _, by simp only [giveL, h1], h2⟩
    · obtain ⟨l', e, h1, h2⟩ := giveW_ok h; exact ⟨_, _, by simp only [giveL, h1], h2⟩
    · split at h
      · rename_i cs hid
        obtain ⟨hc, h⟩ := h
        obtain ⟨l', e, h1, h2⟩ := giveW_ok h
        exact ⟨_, _, by simp only [giveL, hid, h1]; rw [if_pos hc], h2⟩
      · exact h.elim
    · exact h.elim

def argsGW (nd : Nat → Option Node) : Nat → List Mode → List TV → (List Arg → List Nat → List (Option Nat) → List (Nat × List Cell) → Prop) → Prop
  | _, [], [], K => K [] [] [] []
  | _, _ :: _, [], _ => False
  | k, m :: ms, x :: xs, K => match m, x with
    | .str, .v b l => giveW nd k l fun l' e => argsGW nd (k + e.length) ms xs fun as j os es => K (.val b l' :: as) j (none :: os) (e ++ es)
    | m, x => argW1 nd m x fun a i o => argsGW nd k ms xs fun as j os es => K (a :: as) (i ++ j) (o :: os) es
  | k, [], x :: xs, K => argW1 nd (.val []) x fun a i o => argsGW nd k [] xs fun as j os es => K (a :: as) (i ++ j) (o :: os) es

theorem argsGW_ok {nd : Nat → Option Node} : ∀ {xs : List TV} {ms : List Mode} {k : Nat} {K : List Arg → List Nat → List (Option Nat) → List (Nat × List Cell) → Prop}, argsGW nd k ms xs K → ∃ a i o e, argsG nd k ms xs = some (a, i, o, e) ∧ K a i o e
  | [], [], _, _, h => ⟨_, _, _, _, rfl, h⟩
  | [], _ :: _, _, _, h => h.elim
  | x :: xs, [], k, K, h => by
    obtain ⟨a, i, o, h1, h⟩ := argW1_ok h
    obtain ⟨as, j, os, es, h2, h⟩ := argsGW_ok h
    exact ⟨_, _, _, _, by simp only [argsG, h1, h2], h⟩
  | x :: xs, m :: ms, k, K, h => by
    unfold argsGW at h
    split at h
    · rename_i b l
      obtain ⟨l', e, h1, h⟩ := giveW_ok h
      obtain ⟨as, j, os, es, h2, h⟩ := argsGW_ok h
      exact ⟨_, _, _, _, by simp only [argsG, h1, h2], h⟩
    · rename_i hm
      obtain ⟨a, i, o, h1, h⟩ := argW1_ok h
      obtain ⟨as, j, os, es, h2, h⟩ := argsGW_ok h
      have e : argsG nd k (m :: ms) (x :: xs) = (match argT nd m x, argsG nd k ms xs with | some (a, i, o), some (as, j, os, es) => some (a :: as, i ++ j, o :: os, es) | _, _ => none) := by
        cases m with
        | str =>
          cases x with
          | v b l => exact (hm b l rfl rfl).elim
          | _ => rfl
        | _ => rfl
      exact ⟨_, _, _, _, by rw [e, h1, h2], h⟩

def argsW (nd : Nat → Option Node) (ms : List Mode) (xs : List TV) (K : List Arg → List Nat → List (Option Nat) → Prop) : Prop :=
  argsGW nd xs.length ms xs fun as i os es => match es with
    | [] => K as i os
    | e :: es => K (as ++ (e :: es).map (fun e => .ex e.2)) i (os ++ (e :: es).map (fun e => some e.1))

theorem argsW_ok {nd : Nat → Option Node} {xs : List TV} {ms : List Mode} {K : List Arg → List Nat → List (Option Nat) → Prop} (h : argsW nd ms xs K) : ∃ a i o, argsT nd ms xs = some (a, i, o) ∧ K a i o := by
  obtain ⟨as, i, os, es, h1, h2⟩ := argsGW_ok h
  cases es with
  | nil => exact ⟨as, i, os, by simp [argsT, h1], h2⟩
  | cons e es => exact ⟨_, _, _, by simp only [argsT, h1], h2⟩

section
variable (P : Program) (X : FuncId → List Arg → List (Bool × List Cell) → List (Option (List Cell)) → Prop) (md : FuncId → List Mode)

def callW (nd : Nat → Option Node) (nid : Nat) (f : FuncId) (xs : List TV) (K : KT) : Prop :=
  match enterOK P f with
  | true => argsW nd (md f) xs fun as' sn ow => match decide ((ow.filterMap id).Nodup ∧ ∀ x ∈ sn, some x ∉ ow) with
    | true => ∃ as vals outs, as' = as ∧ D P X (.call f as vals outs) ∧ (sn = [] ∨ pureV vals outs = true) ∧ (ownsV vals).length ≤ 16 ∧
        fvs (placeV nid vals) fun vs => fu (backU ow outs ++ newU nid (ownsV vals)) fun l => fv (resTV vs) fun r => K r l
    | false => False
  | _ => False

def runW (τ : W) (nid : Nat) (o : Oper) (K : KT) : Prop :=
  match o.op with
  | .call c => match c.callee with
    | .value (.func f) => callW P X md τ.nd nid f (c.args.toList.map (evW τ)) K
    | _ => effW P τ.nd nid (evW τ) o.op K
  | op => effW P τ.nd nid (evW τ) op K

def addK : Upds → List (Nat × Option Node) → (List (Nat × Option Node) → Prop) → Prop
  | [], h, K => K h
  | (i, n) :: l, h, K => addK l ((i, n) :: h) K

def nxK : Upds → Nat → (Nat → Prop) → Prop
  | [], n, K => K n
  | (i, _) :: l, n, K => match Nat.ble (i + 1) n with
    | true => nxK l n K
    | false => nxK l (i + 1) K

theorem addK_eq : ∀ (l : Upds) (h : List (Nat × Option Node)) (K : List (Nat × Option Node) → Prop), addK l h K = K (addU l h)
  | [], _, _ => rfl
  | (i, n) :: l, h, K => addK_eq l ((i, n) :: h) K

theorem nxK_eq : ∀ (l : Upds) (n : Nat) (K : Nat → Prop), nxK l n K = K (nxU l n)
  | [], _, _ => rfl
  | (i, _) :: l, n, K => by
    show (match Nat.ble (i + 1) n with | true => nxK l n K | false => nxK l (i + 1) K) = K (nxU l (max n (i + 1)))
    cases h : Nat.ble (i + 1) n with
    | true => have := Nat.le_of_ble_eq_true h; rw [Nat.max_eq_left this]; exact nxK_eq l n K
    | false => have : ¬ i + 1 ≤ n := fun q => by rw [Nat.ble_eq_true_of_le q] at h; cases h
               rw [Nat.max_eq_right (by omega)]; exact nxK_eq l (i + 1) K

def nidW (base : Option Nat) (nx : Nat) (i : Nat) : Nat :=
  match base with
  | none => nx
  | some b => b + 16 * i

def baseW (base : Option Nat) (nx i : Nat) (K : Nat → Prop) : Prop :=
  match base with
  | none => K nx
  | some b => K (b + 16 * i)

theorem baseW_eq (base : Option Nat) (nx i : Nat) (K : Nat → Prop) : baseW base nx i K = K (nidW base nx i) := by cases base <;> rfl

/-- Behind one operation. -/
def nextW (t : List (Nat × TV)) (h : List (Nat × Option Node)) (nx tn : Nat) (d : Option Nat) (K : W → List (TV × Upds) → Prop) (go : W → (W → List (TV × Upds) → Prop) → Prop) : KT := fun r l =>
  addK l h fun h' => nxK l nx fun nx' => match d with
    | none => go ⟨t, h', nx', tn⟩ fun τ' us => K τ' ((r, l) :: us)
    | some d => match Nat.blt d tn with
      | true => go ⟨(d, r) :: t, h', nx', tn⟩ fun τ' us => K τ' ((r, l) :: us)
      | false => False

/-- One operation, with its guard. -/
def guardW (ops : Array Oper) (base : Option Nat) (i : Nat) (o : Oper) (t : List (Nat × TV)) (h : List (Nat × Option Node)) (nx tn : Nat) (next : KT) : Prop :=
  match o.guard with
  | none => baseW base nx i fun nid => runW P X md ⟨t, h, nx, tn⟩ nid o next
  | some (j, want) => match (ops[j]?).bind (·.dst) with
    | some d => match look .undef t d with
      | .v false [.prim (.bool b)] => match b, want with
        | true, true => baseW base nx i fun nid => runW P X md ⟨t, h, nx, tn⟩ nid o next
        | false, false => baseW base nx i fun nid => runW P X md ⟨t, h, nx, tn⟩ nid o next
        | _, _ => next (.tup []) []
      | .tup [] => next (.tup []) []
      | _ => False
    | none => False

def wOps (ops : Array Oper) (base : Option Nat) : Nat → List Oper → W → (W → List (TV × Upds) → Prop) → Prop
  | _, [], τ, K => K τ []
  | i, o :: os, τ, K => match τ with
    | ⟨t, h, nx, tn⟩ => guardW P X md ops base i o t h nx tn (nextW t h nx tn o.dst K fun τ' K' => wOps ops base (i + 1) os τ' K')

/-- A step that the machine does not notice. -/
structure WGh (n : Nat) (τ τ' : W) : Prop where
  go : ∀ σ, Sim τ σ → ∃ σ', Sim τ' σ' ∧ Gh n σ σ'

theorem WGh.refl {n : Nat} {τ : W} : WGh n τ τ := ⟨fun σ s => ⟨σ, s, fun _ _ _ _ h => h⟩⟩
theorem WGh.trans {n : Nat} {a b c : W} (h : WGh n a b) (k : WGh n b c) : WGh n a c := ⟨fun σ s => by
  obtain ⟨σ1, s1, g1⟩ := h.go σ s
  obtain ⟨σ2, s2, g2⟩ := k.go σ1 s1
  exact ⟨σ2, s2, fun k' L0 a w hh => g2 k' L0 a w (g1 k' L0 a w hh)⟩⟩

/-- A region whose operations may be done in any order. -/
structure Drw (a b c : Bool) : Prop where
  order : a = true
  ids : b = true
  aft : c = true

def wCode (n : Nat) : Code → W → (Out → W → Prop) → Prop
  | .skip, τ, K => K .norm τ
  | .ret, τ, K => K .ret τ
  | .exit m, τ, K => K (.exit m) τ
  | .region _ ops draw, τ, K => match draw with
    | false => wOps P X md ops none 0 ops.toList τ fun τ' _ => K .norm τ'
    | true => wOps P X md ops (some τ.nx) 0 ops.toList τ fun τ' us => Drw (orderOK ops ops.size (fpsW ops τ us 0)) (idsOK ops ops.size τ.nx us) (afterOK ops) ∧ K .norm τ'
  | .seq a b, τ, K => wCode n a τ fun o τ' => match o with
    | .norm => ∃ τ1, WGh n τ' τ1 ∧ wCode n b τ1 K
    | .exit m => K (.exit m) τ'
    | .ret => K .ret τ'
  | .cond c a b, τ, K => match evW τ c with
    | .v false [.prim (.bool t)] => match t with
      | true => wCode n a τ K
      | false => wCode n b τ K
    | _ => False
  | .block id c, τ, K => wCode n c τ fun o τ' => match o with
    | .exit m => match Nat.beq m id with
      | true => K .norm τ'
      | false => K (.exit m) τ'
    | .norm => K .norm τ'
    | .ret => K .ret τ'
  | .loop c, τ, K => ∃ (ι : Type) (I : ι → W) (μ : ι → Nat) (i0 : ι), WGh n τ (I i0) ∧ ∀ i, wCode n c (I i) fun o τ' => match o with
    | .norm => ∃ j, μ j < μ i ∧ WGh n τ' (I j)
    | .exit m => K (.exit m) τ'
    | .ret => K .ret τ'
  | _, _, _ => False
end

end Go.Proofs.Ytacfohamlkbpjaa
