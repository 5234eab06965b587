/- What the law comes to: functions of the program, each with what it gives back, and the plain facts behind them. -/
import Derived.IntWalk
import Derived.Test.YtddikflnjloagaaGreatDoorPd
namespace Go.Proofs.YtddikflnjloagaaGreatDoor

section
open Go Go.RowKit

/-- A T state, newest entries first. -/
structure W where
  t : List (Nat × TV)
  h : List (Nat × Option Node)
  nx : Nat
  tn : Nat

def look {α : Type} (d : α) : List (Nat × α) → Nat → α
  | [], _ => d
  | (i, v) :: l, n => match Nat.beq i n with
    | true => v
    | false => look d l n

def W.tv (τ : W) (i : Nat) : TV := look .undef τ.t i

def W.nd (τ : W) (i : Nat) : Option Node := look none τ.h i

def evW (τ : W) : Operand → TV
  | .tmp i => τ.tv i
  | .const v => if v.oneCell' then .v false [ofV v] else .undef
  | _ => .undef

def addU : Upds → List (Nat × Option Node) → List (Nat × Option Node)
  | [], h => h
  | p :: l, h => addU l (p :: h)

def nxU : Upds → Nat → Nat
  | [], n => n
  | p :: l, n => nxU l (max n (p.1 + 1))

def W.app (τ : W) (d : Option Nat) (r : TV) (l : Upds) : W :=
  ⟨match d with | some d => (d, r) :: τ.t | none => τ.t, addU l τ.h, nxU l τ.nx, τ.tn⟩

structure Sim (τ : W) (σ : St) : Prop where
  tv : ∀ i, σ.tv i = τ.tv i
  nd : ∀ i, σ.nd i = τ.nd i
  nx : σ.h.length = τ.nx
  tn : σ.t.length = τ.tn

theorem look_cons {α : Type} (d : α) (i : Nat) (v : α) (l : List (Nat × α)) (n : Nat) : look d ((i, v) :: l) n = if i = n then v else look d l n := by
  have e1 : look d ((i, v) :: l) n = match Nat.beq i n with | true => v | false => look d l n := rfl
  rw [e1]
  cases h : Nat.beq i n with
  | true => rw [if_pos (Nat.eq_of_beq_eq_true h)]
  | false => rw [if_neg (fun e => by subst e; simp at h)]

theorem look_addU : ∀ (l : Upds) (h : List (Nat × Option Node)) (x : Nat), look none (addU l h) x = ups (look none h) l x
  | [], _, _ => rfl
  | p :: l, h, x => by
    show look none (addU l (p :: h)) x = ups (upd (look none h) p.1 p.2) l x
    rw [look_addU l (p :: h) x]
    refine ups_congr ?_
    obtain ⟨i, n⟩ := p
    rw [look_cons]
    unfold upd
    by_cases e : i = x
    · rw [if_pos e, if_pos e.symm]
    · rw [if_neg e, if_neg (fun q => e q.symm)]

theorem Sim.ev {τ : W} {σ : St} (s : Sim τ σ) (x : Operand) : evT σ.t x = evW τ x := by
  cases x with
  | tmp i => exact s.tv i
  | _ => rfl

theorem foldl_nx : ∀ (l : Upds) (h : List (Option Node)), (l.foldl (fun h p => setH h p.1 p.2) h).length = nxU l h.length
  | [], _ => rfl
  | p :: l, h => by
    show (l.foldl _ (setH h p.1 p.2)).length = nxU l (max h.length (p.1 + 1))
    rw [foldl_nx l, setH_length]

theorem Sim.app {τ : W} {σ : St} (s : Sim τ σ) {d : Option Nat} (hd : ∀ x, d = some x → x < τ.tn) (r : TV) (l : Upds) : Sim (τ.app d r l) (σ.app d r l) := by
  refine ⟨fun i => ?_, fun i => ?_, ?_, ?_⟩
  · cases d with
    | none => exact s.tv i
    | some d =>
      have hlt : d < σ.t.length := by rw [s.tn]; exact hd d rfl
      show (σ.t.set d r).getD i .undef = look .undef ((d, r) :: τ.t) i
      rw [look_cons, List.getD_eq_getElem?_getD, List.getElem?_set]
      by_cases e : d = i
      · rw [if_pos e, if_pos e, if_pos hlt]; rfl
      · rw [if_neg e, if_neg e]
        have := s.tv i
        unfold St.tv W.tv at this
        rw [List.getD_eq_getElem?_getD] at this; exact this
  · rw [nd_app]
    show ups σ.nd l i = look none (addU l τ.h) i
    rw [look_addU]
    exact ups_congr (s.nd i)
  · show (l.foldl (fun h p => setH h p.1 p.2) σ.h).length = nxU l τ.nx
    rw [foldl_nx, s.nx]
  · rw [tv_app_len]; exact s.tn

/-! ### Order -/

def nodesW (τ : W) (o : Oper) : List Nat := (opN o.op).flatMap fun x => (evW τ x).ids

def fpsW (ops : Array Oper) : W → List (TV × Upds) → Nat → List FP
  | _, [], _ => []
  | τ, (r, l) :: us, i =>
    (match ops[i]? with
    | some o => ⟨tmpsR ops o, o.dst.toList, nodesW τ o, l.map (·.1)⟩
    | none => ⟨[], [], [], []⟩) :: fpsW ops (τ.app (dstOf ops i) r l) us (i + 1)

/-! ### Values told by their form -/

def fvs : List (Bool × List Cell) → (List (Bool × List Cell) → Prop) → Prop
  | [], K => K []
  | (b, l) :: vs, K => match b, l with
    | false, [.prim (.bool t)] => (t = true → fvs vs fun vs => K ((false, [.prim (.bool true)]) :: vs)) ∧ (t = false → fvs vs fun vs => K ((false, [.prim (.bool false)]) :: vs))
    | b, l => fl l fun l => fvs vs fun vs => K ((b, l) :: vs)

theorem fvs_ok : ∀ {l : List (Bool × List Cell)} {K : List (Bool × List Cell) → Prop}, fvs l K → K l
  | [], _, h => h
  | (b, l) :: vs, K, h => by
    unfold fvs at h
    split at h
    · rename_i t
      cases t with
      | true => exact fvs_ok (l := vs) (K := fun vs => K ((false, [.prim (.bool true)]) :: vs)) (h.1 rfl)
      | false => exact fvs_ok (l := vs) (K := fun vs => K ((false, [.prim (.bool false)]) :: vs)) (h.2 rfl)
    · exact fvs_ok (l := vs) (K := fun vs => K (_ :: vs)) (fl_ok (K := fun l => fvs vs fun vs => K ((_, l) :: vs)) h)

def fu : Upds → (Upds → Prop) → Prop
  | [], K => K []
  | (i, n) :: l, K => match n with
    | none => fu l fun l => K ((i, none) :: l)
    | some (o, cs) => fu l fun l => K ((i, some (o, cs)) :: l)

theorem fu_ok : ∀ {l : Upds} {K : Upds → Prop}, fu l K → K l
  | [], _, h => h
  | (i, none) :: l, K, h => fu_ok (l := l) (K := fun l => K ((i, none) :: l)) h
  | (i, some (o, cs)) :: l, K, h => fu_ok (l := l) (K := fun l => K ((i, some (o, cs)) :: l)) h

/-! ### Arguments -/

def snapW (nd : Nat → Option Node) : List Nat → List Cell → (List Cell → List Nat → Prop) → Prop
  | _, [], K => K [] []
  | zs, c :: cs, K => match c with
    | .prim v => snapW nd zs cs fun l u => K (.prim v :: l) u
    | .nil => match zs with
      | [] => snapW nd [] cs fun l u => K (.nil :: l) u
      | s :: zs => snapW nd zs cs fun l u => K (.sl false 0 s [] :: l) u
    | .sl false n s x => snapW nd zs cs fun l u => K (.sl false n s x :: l) u
    | .ref id off n s => match nd id with
      | some (o, cs') => (off + n * s ≤ cs'.length ∧ ((cs'.drop off).take (n * s)).all Cell.shal = true) ∧ ∃ x, roifyL ((cs'.drop off).take (n * s)) = x ∧ match o with
        | true => snapW nd zs cs fun l u => K (.sl false n s x :: l) (id :: u)
        | false => snapW nd zs cs fun l u => K (.sl false n s x :: l) u
      | none => False
    | _ => False

theorem snapW_ok {nd : Nat → Option Node} : ∀ {cs : List Cell} {zs : List Nat} {K : List Cell → List Nat → Prop}, snapW nd zs cs K → ∃ l u, snapL nd zs cs = some (l, u) ∧ K l u
  | [], zs, K, h => by cases zs <;> exact ⟨_, _, rfl, h⟩
  | c :: cs, zs, K, h => by
    have step : ∀ {c' : Cell} {i : List Nat}, (∀ s zs', zs = s :: zs' → c ≠ .nil) → snapC nd c = some (c', i) → (∃ l u, snapL nd zs cs = some (l, u) ∧ K (c' :: l) (i ++ u)) → ∃ l u, snapL nd zs (c :: cs) = some (l, u) ∧ K l u := by
      intro c' i hn h1 h2
      obtain ⟨l, u, h3, h4⟩ := h2
      refine ⟨_, _, ?_, h4⟩
      cases zs with
      | nil => simp only [snapL, h1, h3]
      | cons s zs' =>
        cases c with
        | nil => exact absurd rfl (hn s zs' rfl)
        | _ => simp only [snapL, h1, h3]
    unfold snapW at h
    split at h
    · obtain ⟨l, u, h1, h2⟩ := snapW_ok h
      exact step (i := []) (by simp) rfl ⟨l, u, h1, h2⟩
    · split at h
      · obtain ⟨l, u, h1, h2⟩ := snapW_ok h
        exact step (i := []) (fun s zs' e => by cases e) rfl ⟨l, u, h1, h2⟩
      · obtain ⟨l, u, h1, h2⟩ := snapW_ok h
        exact ⟨_, _, by simp only [snapL, h1], h2⟩
    · obtain ⟨l, u, h1, h2⟩ := snapW_ok h
      exact step (i := []) (by simp) rfl ⟨l, u, h1, h2⟩
    · rename_i id off n s
      split at h
      · rename_i o cs' hid
        obtain ⟨hc, x, rfl, h⟩ := h
        split at h
        · obtain ⟨l, u, h1, h2⟩ := snapW_ok h
          exact step (i := [id]) (by simp) (by simp only [snapC, hid]; rw [if_pos hc]; rfl) ⟨l, u, h1, h2⟩
        · obtain ⟨l, u, h1, h2⟩ := snapW_ok h
          exact step (i := []) (by simp) (by simp only [snapC, hid]; rw [if_pos hc]; rfl) ⟨l, u, h1, h2⟩
      · exact h.elim
    · exact h.elim

def argW1 (nd : Nat → Option Node) (m : Mode) (x : TV) (K : Arg → List Nat → Option Nat → Prop) : Prop :=
  match m, x with
  | .val zs, .v b l => snapW nd zs l fun l' i => K (.val b l') i none
  | .own s, .v false [.nil] => K (.own false 0 s []) [] none
  | .own _, .v false [.ptr id off] => match nd id with
    | some (true, cs) => (off = 0 ∧ cs.all Cell.shal = true) ∧ K (.own true 0 0 cs) [] (some id)
    | _ => False
  | .own _, .v false [.ref id off n s] => match nd id with
    | some (true, cs) => (off = 0 ∧ cs.length = n * s ∧ cs.all Cell.shal = true) ∧ K (.own false n s cs) [] (some id)
    | _ => False
  | _, _ => False

theorem argW1_ok {nd : Nat → Option Node} {m : Mode} {x : TV} {K : Arg → List Nat → Option Nat → Prop} (h : argW1 nd m x K) : ∃ a i o, argT nd m x = some (a, i, o) ∧ K a i o := by
  unfold argW1 at h
  split at h
  · obtain ⟨l, u, h1, h2⟩ := snapW_ok h
    exact ⟨_, _, _, by simp only [argT, h1], h2⟩
  · exact ⟨_, _, _, rfl, h⟩
  · split at h
    · rename_i cs hid
      exact ⟨_, _, _, by simp only [argT, hid]; rw [if_pos h.1], h.2⟩
    · exact h.elim
  · split at h
    · rename_i cs hid
      exact ⟨_, _, _, by simp only [argT, hid]; rw [if_pos h.1], h.2⟩
    · exact h.elim
  · exact h.elim

def giveW (nd : Nat → Option Node) : Nat → List Cell → (List Cell → List (Nat × List Cell) → Prop) → Prop
  | _, [], K => K [] []
  | k, c :: l, K => match c with
    | .prim v => giveW nd k l fun l' e => K (.prim v :: l') e
    | .nil => giveW nd k l fun l' e => K (.nil :: l') e
    | .sl false n s x => giveW nd k l fun l' e => K (.sl false n s x :: l') e
    | .ref id off n s => match nd id with
      | some (true, cs) => (off = 0 ∧ cs.length = n * s ∧ cs.all Cell.shal = true) ∧ giveW nd (k + 1) l fun l' e => K (.ref k 0 n s :: l') ((id, cs) :: e)
      | _ => False
    | _ => False

theorem giveW_ok {nd : Nat → Option Node} : ∀ {l : List Cell} {k : Nat} {K : List Cell → List (Nat × List Cell) → Prop}, giveW nd k l K → ∃ l' e, giveL nd k l = some (l', e) ∧ K l' e
  | [], k, K, h => ⟨_, _, rfl, h⟩
  | c :: l, k, K, h => by
    unfold giveW at h
    split at h
    · obtain ⟨l', e, h1, h2⟩ := giveW_ok h; exact ⟨_, _, by simp only [giveL, h1], h2⟩
    · obtain ⟨l', e, h1, h2⟩ := giveW_ok h; exact ⟨_, _, by simp only [giveL, h1], h2⟩
    · obtain ⟨l', e, h1, h2⟩ := giveW_ok h; exact ⟨_, _, by simp only [giveL, h1], h2⟩
    · split at h
      · rename_i cs hid
        obtain ⟨hc, h⟩ := h
        obtain ⟨l', e, h1, h2⟩ := giveW_ok h
        exact ⟨_, _, by simp only [giveL, hid, h1]; rw [if_pos hc], h2⟩
      · exact h.elim
    · exact h.elim

def argsGW (nd : Nat → Option Node) : Nat → List Mode → List TV → (List Arg → List Nat → List (Option Nat) → List (Nat × List Cell) → Prop) → Prop
  | _, [], [], K => K [] [] [] []
  | _, _ :: _, [], _ => False
  | k, m :: ms, x :: xs, K => match m, x with
    | .str, .v b l => giveW nd k l fun l' e => argsGW nd (k + e.length) ms xs fun as j os es => K (.val b l' :: as) j (none :: os) (e ++ es)
    | m, x => argW1 nd m x fun a i o => argsGW nd k ms xs fun as j os es => K (a :: as) (i ++ j) (o :: os) es
  | k, [], x :: xs, K => argW1 nd (.val []) x fun a i o => argsGW nd k [] xs fun as j os es => K (a :: as) (i ++ j) (o :: os) es

theorem argsGW_ok {nd : Nat → Option Node} : ∀ {xs : List TV} {ms : List Mode} {k : Nat} {K : List Arg → List Nat → List (Option Nat) → List (Nat × List Cell) → Prop}, argsGW nd k ms xs K → ∃ a i o e, argsG nd k ms xs = some (a, i, o, e) ∧ K a i o e
  | [], [], _, _, h => ⟨_, _, _, _, rfl, h⟩
  | [], _ :: _, _, _, h => h.elim
  | x :: xs, [], k, K, h => by
    obtain ⟨a, i, o, h1, h⟩ := argW1_ok h
    obtain ⟨as, j, os, es, h2, h⟩ := argsGW_ok h
    exact ⟨_, _, _, _, by simp only [argsG, h1, h2], h⟩
  | x :: xs, m :: ms, k, K, h => by
    unfold argsGW at h
    split at h
    · rename_i b l
      obtain ⟨l', e, h1, h⟩ := giveW_ok h
      obtain ⟨as, j, os, es, h2, h⟩ := argsGW_ok h
      exact ⟨_, _, _, _, by simp only [argsG, h1, h2], h⟩
    · rename_i hm
      obtain ⟨a, i, o, h1, h⟩ := argW1_ok h
      obtain ⟨as, j, os, es, h2, h⟩ := argsGW_ok h
      have e : argsG nd k (m :: ms) (x :: xs) = (match argT nd m x, argsG nd k ms xs with | some (a, i, o), some (as, j, os, es) => some (a :: as, i ++ j, o :: os, es) | _, _ => none) := by
        cases m with
        | str =>
          cases x with
          | v b l => exact (hm b l rfl rfl).elim
          | _ => rfl
        | _ => rfl
      exact ⟨_, _, _, _, by rw [e, h1, h2], h⟩

def argsW (nd : Nat → Option Node) (ms : List Mode) (xs : List TV) (K : List Arg → List Nat → List (Option Nat) → Prop) : Prop :=
  argsGW nd xs.length ms xs fun as i os es => match es with
    | [] => K as i os
    | e :: es => K (as ++ (e :: es).map (fun e => .ex e.2)) i (os ++ (e :: es).map (fun e => some e.1))

theorem argsW_ok {nd : Nat → Option Node} {xs : List TV} {ms : List Mode} {K : List Arg → List Nat → List (Option Nat) → Prop} (h : argsW nd ms xs K) : ∃ a i o, argsT nd ms xs = some (a, i, o) ∧ K a i o := by
  obtain ⟨as, i, os, es, h1, h2⟩ := argsGW_ok h
  cases es with
  | nil => exact ⟨as, i, os, by simp [argsT, h1], h2⟩
  | cons e es => exact ⟨_, _, _, by simp only [argsT, h1], h2⟩

/-- A call does something, of which `Q` holds. -/
structure CallS (P : Program) (X : FuncId → List Arg → List (Bool × List Cell) → List (Option (List Cell)) → Prop) (f : FuncId) (as' : List Arg) (Q : List (Bool × List Cell) → List (Option (List Cell)) → Prop) : Prop where
  ex : ∃ as vals outs, as' = as ∧ D P X (.call f as vals outs) ∧ Q vals outs

/-- What comes back shares nothing. -/
structure PureS (vals : List (Bool × List Cell)) (outs : List (Option (List Cell))) : Prop where
  pure : pureV vals outs = true

section

variable (P : Program) (X : FuncId → List Arg → List (Bool × List Cell) → List (Option (List Cell)) → Prop) (md : FuncId → List Mode)

def callW (nd : Nat → Option Node) (nid : Nat) (f : FuncId) (xs : List TV) (K : KT) : Prop :=
  match enterOK P f with
  | true => argsW nd (md f) xs fun as' sn ow => match decide ((ow.filterMap id).Nodup ∧ ∀ x ∈ sn, some x ∉ ow) with
    | true => CallS P X f as' fun vals outs => match sn with
      | [] => match Nat.ble (ownsV vals).length 16 with
        | true => fvs (placeV nid vals) fun vs => fu (backU ow outs ++ newU nid (ownsV vals)) fun l => fv (resTV vs) fun r => K r l
        | false => False
      | _ :: _ => PureS vals outs ∧ match Nat.ble (ownsV vals).length 16 with
        | true => fvs (placeV nid vals) fun vs => fu (backU ow outs ++ newU nid (ownsV vals)) fun l => fv (resTV vs) fun r => K r l
        | false => False
    | false => False
  | _ => False

def runW (τ : W) (nid : Nat) (o : Oper) (K : KT) : Prop :=
  match o.op with
  | .call c => match c.callee with
    | .value (.func f) => callW P X md τ.nd nid f (c.args.toList.map (evW τ)) K
    | _ => effW P τ.nd nid (evW τ) o.op K
  | op => effW P τ.nd nid (evW τ) op K

def addK : Upds → List (Nat × Option Node) → (List (Nat × Option Node) → Prop) → Prop
  | [], h, K => K h
  | (i, n) :: l, h, K => addK l ((i, n) :: h) K

/-- A number, told as it is written: a sum of powers of two. -/
def natB : Nat → Nat → Nat → (Nat → Prop) → Prop
  | 0, a, n, K => match Nat.beq a n with
    | true => K a
    | false => K n
  | b + 1, a, n, K => match Nat.ble (Nat.add a (Nat.pow 2 b)) n with
    | true => natB b (Nat.add a (Nat.pow 2 b)) n K
    | false => natB b a n K

def natK (n : Nat) (K : Nat → Prop) : Prop := match Nat.ble n 9 with
  | true => litK n K
  | false => natB 9 0 n K

theorem natB_eq (K : Nat → Prop) (n : Nat) : ∀ b a : Nat, natB b a n K = K n
  | 0, a => by
    unfold natB
    cases h : Nat.beq a n with
    | true => rw [Nat.eq_of_beq_eq_true h]
    | false => rfl
  | b + 1, a => by
    unfold natB
    cases Nat.ble (Nat.add a (Nat.pow 2 b)) n with
    | true => exact natB_eq K n b _
    | false => exact natB_eq K n b a

theorem natK_eq (n : Nat) (K : Nat → Prop) : natK n K = K n := by
  unfold natK
  cases Nat.ble n 9 with
  | true =>
    show litK n K = K n
    unfold litK
    split <;> rfl
  | false => exact natB_eq K n 9 0

def nxK : Upds → Nat → (Nat → Prop) → Prop
  | [], n, K => K n
  | (i, _) :: l, n, K => match Nat.ble (i + 1) n with
    | true => nxK l n K
    | false => natK (i + 1) fun m => nxK l m K

theorem addK_eq : ∀ (l : Upds) (h : List (Nat × Option Node)) (K : List (Nat × Option Node) → Prop), addK l h K = K (addU l h)
  | [], _, _ => rfl
  | (i, n) :: l, h, K => addK_eq l ((i, n) :: h) K

theorem nxK_eq : ∀ (l : Upds) (n : Nat) (K : Nat → Prop), nxK l n K = K (nxU l n)
  | [], _, _ => rfl
  | (i, _) :: l, n, K => by
    show (match Nat.ble (i + 1) n with | true => nxK l n K | false => natK (i + 1) fun m => nxK l m K) = K (nxU l (max n (i + 1)))
    rw [natK_eq (i + 1) fun m => nxK l m K]
    cases h : Nat.ble (i + 1) n with
    | true => have := Nat.le_of_ble_eq_true h; rw [Nat.max_eq_left this]; exact nxK_eq l n K
    | false => have : ¬ i + 1 ≤ n := fun q => by rw [Nat.ble_eq_true_of_le q] at h; cases h
               rw [Nat.max_eq_right (by omega)]; exact nxK_eq l (i + 1) K

def nidW (base : Option Nat) (nx : Nat) (i : Nat) : Nat :=
  match base with
  | none => nx
  | some b => b + 16 * i

def baseW (base : Option Nat) (nx i : Nat) (K : Nat → Prop) : Prop :=
  match base with
  | none => K nx
  | some b => K (b + 16 * i)

theorem baseW_eq (base : Option Nat) (nx i : Nat) (K : Nat → Prop) : baseW base nx i K = K (nidW base nx i) := by cases base <;> rfl

/-- Behind one operation. -/
def nextW (t : List (Nat × TV)) (h : List (Nat × Option Node)) (nx tn : Nat) (d : Option Nat) (K : W → List (TV × Upds) → Prop) (go : W → (W → List (TV × Upds) → Prop) → Prop) : KT := fun r l =>
  addK l h fun h' => nxK l nx fun nx' => match d with
    | none => go ⟨t, h', nx', tn⟩ fun τ' us => K τ' ((r, l) :: us)
    | some d => match Nat.blt d tn with
      | true => go ⟨(d, r) :: t, h', nx', tn⟩ fun τ' us => K τ' ((r, l) :: us)
      | false => False

/-- One operation, with its guard. -/
def guardW (ops : Array Oper) (base : Option Nat) (i : Nat) (o : Oper) (t : List (Nat × TV)) (h : List (Nat × Option Node)) (nx tn : Nat) (next : KT) : Prop :=
  match o.guard with
  | none => baseW base nx i fun nid => runW P X md ⟨t, h, nx, tn⟩ nid o next
  | some (j, want) => match (ops[j]?).bind (·.dst) with
    | some d => match look .undef t d with
      | .v false [.prim (.bool b)] => match b, want with
        | true, true => baseW base nx i fun nid => runW P X md ⟨t, h, nx, tn⟩ nid o next
        | false, false => baseW base nx i fun nid => runW P X md ⟨t, h, nx, tn⟩ nid o next
        | _, _ => next (.tup []) []
      | .tup [] => next (.tup []) []
      | _ => False
    | none => False

/-- A step that the machine does not notice. -/
structure WGh (n : Nat) (τ τ' : W) : Prop where
  go : ∀ σ, Sim τ σ → ∃ σ', Sim τ' σ' ∧ Gh n σ σ'

theorem WGh.refl {n : Nat} {τ : W} : WGh n τ τ := ⟨fun σ s => ⟨σ, s, fun _ _ _ _ h => h⟩⟩

theorem WGh.trans {n : Nat} {a b c : W} (h : WGh n a b) (k : WGh n b c) : WGh n a c := ⟨fun σ s => by
  obtain ⟨σ1, s1, g1⟩ := h.go σ s
  obtain ⟨σ2, s2, g2⟩ := k.go σ1 s1
  exact ⟨σ2, s2, fun k' L0 a w hh => g2 k' L0 a w (g1 k' L0 a w hh)⟩⟩

/-- Behind a call of such a function (its first mode is `own` of more than 99) such a step may come. -/
def jnW (md : FuncId → List Mode) (o : Oper) : Bool :=
  match o.op with
  | .call c => match c.callee with
    | .value (.func f) => match md f with
      | .own s :: _ => Nat.blt 99 s
      | _ => false
    | _ => false
  | _ => false

def wOps (n : Nat) (ops : Array Oper) (base : Option Nat) : Nat → List Oper → W → (W → List (TV × Upds) → Prop) → Prop
  | _, [], τ, K => K τ []
  | i, o :: os, τ, K => match τ with
    | ⟨t, h, nx, tn⟩ => guardW P X md ops base i o t h nx tn (nextW t h nx tn o.dst K fun τ' K' => match base with
      | some _ => wOps n ops base (i + 1) os τ' K'
      | none => match jnW md o with
        | false => wOps n ops base (i + 1) os τ' K'
        | true => ∃ τ1, WGh n τ' τ1 ∧ wOps n ops base (i + 1) os τ1 K')

/-- A region whose operations may be done in any order. -/
structure Drw (a b c : Bool) : Prop where
  order : a = true
  ids : b = true
  aft : c = true

def wCode (n : Nat) : Code → W → (Out → W → Prop) → Prop
  | .skip, τ, K => K .norm τ
  | .ret, τ, K => K .ret τ
  | .exit m, τ, K => K (.exit m) τ
  | .region _ ops draw, τ, K => match draw with
    | false => wOps P X md n ops none 0 ops.toList τ fun τ' _ => K .norm τ'
    | true => wOps P X md n ops (some τ.nx) 0 ops.toList τ fun τ' us => Drw (orderOK ops ops.size (fpsW ops τ us 0)) (idsOK ops ops.size τ.nx us) (afterOK ops) ∧ K .norm τ'
  | .seq a b, τ, K => wCode n a τ fun o τ' => match o with
    | .norm => ∃ τ1, WGh n τ' τ1 ∧ wCode n b τ1 K
    | .exit m => K (.exit m) τ'
    | .ret => K .ret τ'
  | .cond c a b, τ, K => match evW τ c with
    | .v false [.prim (.bool t)] => match t with
      | true => wCode n a τ K
      | false => wCode n b τ K
    | _ => False
  | .block id c, τ, K => wCode n c τ fun o τ' => match o with
    | .exit m => match Nat.beq m id with
      | true => K .norm τ'
      | false => K (.exit m) τ'
    | .norm => K .norm τ'
    | .ret => K .ret τ'
  | .loop c, τ, K => ∃ (ι : Type) (I : ι → W) (μ : ι → Nat) (i0 : ι), WGh n τ (I i0) ∧ ∀ i, wCode n c (I i) fun o τ' => match o with
    | .norm => ∃ j, μ j < μ i ∧ WGh n τ' (I j)
    | .exit m => K (.exit m) τ'
    | .ret => K .ret τ'
  | _, _, _ => False

end
end

section
open Go Go.RowKit

section

variable {P : Program} {X : FuncId → List Arg → List (Bool × List Cell) → List (Option (List Cell)) → Prop} {md : FuncId → List Mode}

theorem Sim.evf {τ : W} {σ : St} (s : Sim τ σ) : evT σ.t = evW τ := funext s.ev

theorem Sim.ndf {τ : W} {σ : St} (s : Sim τ σ) : σ.nd = τ.nd := funext s.nd

theorem runW_ok {ops : Array Oper} {i nid : Nat} {o : Oper} {τ : W} {σ : St} {K : KT} (s : Sim τ σ) (ho : ops[i]? = some o) (hg : guardT ops σ.t o = some true) (h : runW P X md τ nid o K) :
    ∃ r l, D P X (.op nid ops i σ r l) ∧ K r l := by
  have he : ∀ {op : Op}, o.op = op → effW P τ.nd nid (evW τ) op K → ∃ r l, D P X (.op nid ops i σ r l) ∧ K r l := fun {op} e h => by
    obtain ⟨r, l, h1, h2⟩ := effW_ok h
    exact ⟨r, l, .opEff ho hg (by rw [s.evf, s.ndf, e]; exact h1), h2⟩
  unfold runW at h
  split at h
  · rename_i c hc
    split at h
    · rename_i f hf
      unfold callW at h
      split at h
      · rename_i he1
        obtain ⟨as', sn, ow, ha, h⟩ := argsW_ok h
        split at h
        · rename_i hd
          obtain ⟨hd1, hd2⟩ := of_decide_eq_true hd
          obtain ⟨as, vals, outs, rfl, h1, h⟩ := h.ex
          have h' : (sn = [] ∨ pureV vals outs = true) ∧ (ownsV vals).length ≤ 16 ∧ fvs (placeV nid vals) fun vs => fu (backU ow outs ++ newU nid (ownsV vals)) fun l => fv (resTV vs) fun r => K r l := by
            split at h
            · split at h
              · rename_i hb; exact ⟨.inl rfl, Nat.le_of_ble_eq_true hb, h⟩
              · exact h.elim
            · obtain ⟨hp, h⟩ := h
              split at h
              · rename_i hb; exact ⟨.inr hp.pure, Nat.le_of_ble_eq_true hb, h⟩
              · exact h.elim
          obtain ⟨h2, h3, h4⟩ := h'
          have h5 := fv_ok (fu_ok (fvs_ok h4))
          obtain ⟨callee, args, tys⟩ := c
          simp only at hf
          subst hf
          exact ⟨_, _, .opCall ho hg hc he1 (by rw [s.evf, s.ndf]; exact ha) hd1 hd2 h1 h2 h3, h5⟩
        · exact h.elim
      · exact h.elim
    · exact he rfl h
  · exact he rfl h

theorem wOps_ok {n : Nat} {ops : Array Oper} {b0 : Nat} : ∀ {os : List Oper} {i : Nat} {τ : W} {σ : St} {K : W → List (TV × Upds) → Prop}, ops.toList.drop i = os → Sim τ σ → wOps P X md n ops (some b0) i os τ K →
    ∃ σ' us τ', D P X (.ops (some b0) ops (List.range' i os.length) σ σ' us) ∧ Sim τ' σ' ∧ K τ' us ∧ ∀ o ∈ os, ∀ d, o.dst = some d → d < τ.tn
  | [], i, τ, σ, K, _, s, h => ⟨σ, [], τ, .opsNil, s, h, fun o ho => by cases ho⟩
  | o :: os, i, τ, σ, K, hd, s, h => by
    have hio : ops.toList[i]? = some o := by
      have := congrArg (·[0]?) hd
      simpa using this
    have ho : ops[i]? = some o := by simpa using hio
    have hd' : ops.toList.drop (i + 1) = os := by rw [← List.tail_drop, hd]; rfl
    obtain ⟨t, hh, nx, tn⟩ := τ
    have hnid : nidW (some b0) nx i = nidOf (some b0) σ i := rfl
    -- behind the operation
    have next : ∀ r l, D P X (.op (nidOf (some b0) σ i) ops i σ r l) → nextW t hh nx tn o.dst K (fun τ' K' => wOps P X md n ops (some b0) (i + 1) os τ' K') r l →
        ∃ σ' us τ', D P X (.ops (some b0) ops (List.range' i (o :: os).length) σ σ' us) ∧ Sim τ' σ' ∧ K τ' us ∧ ∀ o' ∈ o :: os, ∀ d, o'.dst = some d → d < tn := by
      intro r l h1 h2
      unfold nextW at h2
      rw [addK_eq, nxK_eq] at h2
      have hdst : (ops[i]?).bind (·.dst) = o.dst := by rw [ho]; rfl
      have fin : (∀ d, o.dst = some d → d < tn) → wOps P X md n ops (some b0) (i + 1) os ((⟨t, hh, nx, tn⟩ : W).app o.dst r l) (fun τ' us => K τ' ((r, l) :: us)) →
          ∃ σ' us τ', D P X (.ops (some b0) ops (List.range' i (o :: os).length) σ σ' us) ∧ Sim τ' σ' ∧ K τ' us ∧ ∀ o' ∈ o :: os, ∀ d, o'.dst = some d → d < tn := fun hlt h3 => by
        obtain ⟨σ', us, τ', g1, g2, g3, g4⟩ := wOps_ok (os := os) hd' (s.app hlt r l) h3
        refine ⟨σ', (r, l) :: us, τ', ?_, g2, g3, fun o' ho' d hdo => ?_⟩
        · rw [List.length_cons, List.range'_succ]
          exact .opsCons h1 (by rw [hdst]; exact g1)
        · rcases List.mem_cons.1 ho' with rfl | ho'
          · exact hlt d hdo
          · exact g4 o' ho' d hdo
      cases hdd : o.dst with
      | none => rw [hdd] at h2 fin; exact fin (fun d hd => by cases hd) h2
      | some d =>
        rw [hdd] at h2 fin
        simp only at h2
        cases hb : Nat.blt d tn with
        | false => rw [hb] at h2; exact h2.elim
        | true =>
          rw [hb] at h2
          exact fin (fun d' hd' => by obtain rfl := Option.some.inj hd'; exact Nat.le_of_ble_eq_true hb) h2
    have run : guardT ops σ.t o = some true → (baseW (some b0) nx i fun nid => runW P X md ⟨t, hh, nx, tn⟩ nid o (nextW t hh nx tn o.dst K fun τ' K' => wOps P X md n ops (some b0) (i + 1) os τ' K')) →
        ∃ σ' us τ', D P X (.ops (some b0) ops (List.range' i (o :: os).length) σ σ' us) ∧ Sim τ' σ' ∧ K τ' us ∧ ∀ o' ∈ o :: os, ∀ d, o'.dst = some d → d < tn := by
      intro hg hr
      rw [baseW_eq, hnid] at hr
      obtain ⟨r, l, h1, h2⟩ := runW_ok s ho hg hr
      exact next r l h1 h2
    unfold wOps at h
    simp only at h
    unfold guardW at h
    split at h
    · rename_i hgd
      exact run (by simp [guardT, hgd]) h
    · rename_i j want hgd
      split at h
      · rename_i d hd
        split at h
        · rename_i b hb
          have hb' : σ.t.getD d .undef = .v false [.prim (.bool b)] := (s.tv d).trans hb
          have hgt : guardT ops σ.t o = some (b == want) := by simp only [guardT, hgd, hd, hb']
          split at h
          · exact run hgt h
          · exact run hgt h
          · rename_i n1 n2
            refine next _ _ (.opSkip ho ?_) h
            rw [hgt]
            cases b <;> cases want <;> first | rfl | exact (n1 rfl rfl).elim | exact (n2 rfl rfl).elim
        · rename_i hb
          have hb' : σ.t.getD d .undef = .tup [] := (s.tv d).trans hb
          exact next _ _ (.opSkip ho (by simp only [guardT, hgd, hd, hb'])) h
        · exact h.elim
      · exact h.elim

theorem wReg_ok {n : Nat} {ops : Array Oper} : ∀ {os : List Oper} {i : Nat} {τ : W} {σ : St} {K : W → List (TV × Upds) → Prop}, ops.toList.drop i = os → Sim τ σ → wOps P X md n ops none i os τ K →
    ∃ σ' us τ', D P X (.reg n ops (List.range' i os.length) σ σ') ∧ Sim τ' σ' ∧ K τ' us
  | [], i, τ, σ, K, _, s, h => ⟨σ, [], τ, .regNil, s, h⟩
  | o :: os, i, τ, σ, K, hd, s, h => by
    have hio : ops.toList[i]? = some o := by
      have := congrArg (·[0]?) hd
      simpa using this
    have ho : ops[i]? = some o := by simpa using hio
    have hd' : ops.toList.drop (i + 1) = os := by rw [← List.tail_drop, hd]; rfl
    obtain ⟨t, hh, nx, tn⟩ := τ
    have hnid : nidW none nx i = nidOf none σ i := s.nx.symm
    -- behind the operation
    have next : ∀ r l, D P X (.op (nidOf none σ i) ops i σ r l) → nextW t hh nx tn o.dst K (fun τ' K' => match jnW md o with | false => wOps P X md n ops none (i + 1) os τ' K' | true => ∃ τ1, WGh n τ' τ1 ∧ wOps P X md n ops none (i + 1) os τ1 K') r l →
        ∃ σ' us τ', D P X (.reg n ops (List.range' i (o :: os).length) σ σ') ∧ Sim τ' σ' ∧ K τ' us := by
      intro r l h1 h2
      unfold nextW at h2
      rw [addK_eq, nxK_eq] at h2
      have hdst : (ops[i]?).bind (·.dst) = o.dst := by rw [ho]; rfl
      have fin : (∀ d, o.dst = some d → d < tn) → (match jnW md o with | false => wOps P X md n ops none (i + 1) os ((⟨t, hh, nx, tn⟩ : W).app o.dst r l) (fun τ' us => K τ' ((r, l) :: us)) | true => ∃ τ1, WGh n ((⟨t, hh, nx, tn⟩ : W).app o.dst r l) τ1 ∧ wOps P X md n ops none (i + 1) os τ1 (fun τ' us => K τ' ((r, l) :: us))) →
          ∃ σ' us τ', D P X (.reg n ops (List.range' i (o :: os).length) σ σ') ∧ Sim τ' σ' ∧ K τ' us := fun hlt h3 => by
        have key : ∃ σ' us τ', D P X (.reg n ops (List.range' (i + 1) os.length) (σ.app o.dst r l) σ') ∧ Sim τ' σ' ∧ K τ' ((r, l) :: us) := by
          split at h3
          · exact wReg_ok (os := os) hd' (s.app hlt r l) h3
          · obtain ⟨τ1, hg, h3⟩ := h3
            obtain ⟨σ1, s1, hg⟩ := hg.go _ (s.app hlt r l)
            obtain ⟨σ', us, τ', g1, g2, g3⟩ := wReg_ok (os := os) hd' s1 h3
            exact ⟨σ', us, τ', .regGh hg g1, g2, g3⟩
        obtain ⟨σ', us, τ', g1, g2, g3⟩ := key
        refine ⟨σ', (r, l) :: us, τ', ?_, g2, g3⟩
        rw [List.length_cons, List.range'_succ]
        exact .regCons h1 (by rw [hdst]; exact g1)
      cases hdd : o.dst with
      | none => rw [hdd] at h2 fin; exact fin (fun d hd => by cases hd) h2
      | some d =>
        rw [hdd] at h2 fin
        simp only at h2
        cases hb : Nat.blt d tn with
        | false => rw [hb] at h2; exact h2.elim
        | true =>
          rw [hb] at h2
          exact fin (fun d' hd' => by obtain rfl := Option.some.inj hd'; exact Nat.le_of_ble_eq_true hb) h2
    have run : guardT ops σ.t o = some true → (baseW none nx i fun nid => runW P X md ⟨t, hh, nx, tn⟩ nid o (nextW t hh nx tn o.dst K fun τ' K' => match jnW md o with | false => wOps P X md n ops none (i + 1) os τ' K' | true => ∃ τ1, WGh n τ' τ1 ∧ wOps P X md n ops none (i + 1) os τ1 K')) →
        ∃ σ' us τ', D P X (.reg n ops (List.range' i (o :: os).length) σ σ') ∧ Sim τ' σ' ∧ K τ' us := by
      intro hg hr
      rw [baseW_eq, hnid] at hr
      obtain ⟨r, l, h1, h2⟩ := runW_ok s ho hg hr
      exact next r l h1 h2
    unfold wOps at h
    simp only at h
    unfold guardW at h
    split at h
    · rename_i hgd
      exact run (by simp [guardT, hgd]) h
    · rename_i j want hgd
      split at h
      · rename_i d hd
        split at h
        · rename_i b hb
          have hb' : σ.t.getD d .undef = .v false [.prim (.bool b)] := (s.tv d).trans hb
          have hgt : guardT ops σ.t o = some (b == want) := by simp only [guardT, hgd, hd, hb']
          split at h
          · exact run hgt h
          · exact run hgt h
          · rename_i n1 n2
            refine next _ _ (.opSkip ho ?_) h
            rw [hgt]
            cases b <;> cases want <;> first | rfl | exact (n1 rfl rfl).elim | exact (n2 rfl rfl).elim
        · rename_i hb
          have hb' : σ.t.getD d .undef = .tup [] := (s.tv d).trans hb
          exact next _ _ (.opSkip ho (by simp only [guardT, hgd, hd, hb'])) h
        · exact h.elim
      · exact h.elim

theorem fpsW_get {ops : Array Oper} : ∀ {us : List (TV × Upds)} {τ : W} {σ : St} {i0 : Nat}, Sim τ σ → (∀ (i : Nat) (o : Oper) (d : Nat), ops[i]? = some o → o.dst = some d → d < τ.tn) →
    (fpsW ops τ us i0).length = us.length ∧ ∀ (j : Nat) u, us[j]? = some u → (fpsW ops τ us i0)[j]? = some (fpT ops (foldP ops ((us.zipIdx i0).take j) σ) (i0 + j) u)
  | [], _, _, _, _, _ => ⟨rfl, fun j u h => by simp at h⟩
  | (r, l) :: us, τ, σ, i0, s, hd => by
    have s' : Sim (τ.app (dstOf ops i0) r l) (σ.app (dstOf ops i0) r l) := s.app (fun x hx => by
      unfold dstOf at hx
      cases ho : ops[i0]? with
      | none => rw [ho] at hx; simp at hx
      | some o => rw [ho] at hx; exact hd i0 o x ho hx) r l
    obtain ⟨g1, g2⟩ := fpsW_get (us := us) (i0 := i0 + 1) s' hd
    refine ⟨by simp [fpsW, g1], fun j u hu => ?_⟩
    cases j with
    | zero =>
      obtain rfl := Option.some.inj hu
      simp only [fpsW, List.getElem?_cons_zero, fpT, Nat.add_zero, List.take_zero]
      cases ho : ops[i0]? with
      | none => rfl
      | some o =>
        simp only [nodesR, nodesW, foldP, List.foldl_nil]
        rw [s.evf]
    | succ j =>
      have := g2 j u hu
      simp only [fpsW, List.getElem?_cons_succ]
      rw [this, show i0 + 1 + j = i0 + (j + 1) by omega]
      simp [foldP, List.zipIdx_cons, stepP]

theorem fpsW_eq {ops : Array Oper} {us : List (TV × Upds)} {τ : W} {σ : St} (s : Sim τ σ) (hd : ∀ (i : Nat) (o : Oper) (d : Nat), ops[i]? = some o → o.dst = some d → d < τ.tn) : fpsT ops σ us = fpsW ops τ us 0 := by
  obtain ⟨g1, g2⟩ := fpsW_get (us := us) (i0 := 0) s hd
  refine List.ext_getElem? fun j => ?_
  by_cases hj : j < us.length
  · have hu : us[j]? = some us[j] := List.getElem?_eq_getElem hj
    rw [g2 j _ hu]
    have h1 := fps_get (ops := ops) (σ := σ) hu ⟨[], [], [], []⟩
    have hl : j < (fpsT ops σ us).length := by simp [fpsT, hj]
    rw [List.getD_eq_getElem?_getD, List.getElem?_eq_getElem hl] at h1
    rw [List.getElem?_eq_getElem hl, Nat.zero_add]
    simpa using h1
  · rw [List.getElem?_eq_none (by simp [fpsT]; omega), List.getElem?_eq_none (by rw [g1]; omega)]

theorem wCode_ok {n : Nat} : ∀ {c : Code} {τ : W} {σ : St} {K : Out → W → Prop}, Sim τ σ → wCode P X md n c τ K → ∃ out σ' τ', D P X (.code n c σ out σ') ∧ Sim τ' σ' ∧ K out τ' := by
  intro c
  induction c with
  | skip => intro τ σ K s h; exact ⟨_, _, _, .skip, s, h⟩
  | ret => intro τ σ K s h; exact ⟨_, _, _, .ret, s, h⟩
  | exit m => intro τ σ K s h; exact ⟨_, _, _, .exit, s, h⟩
  | region id ops draw =>
    intro τ σ K s h
    unfold wCode at h
    have hr : List.range ops.size = List.range' 0 ops.toList.length := by rw [List.range_eq_range']; simp
    cases draw with
    | false =>
      obtain ⟨σ', us, τ', h1, h2, h3⟩ := wReg_ok (os := ops.toList) (i := 0) (by simp) s h
      exact ⟨_, _, _, .region (by rw [hr]; exact h1), h2, h3⟩
    | true =>
      obtain ⟨σ', us, τ', h1, h2, ⟨⟨h3, h4, h5⟩, h6⟩, h7⟩ := wOps_ok (os := ops.toList) (i := 0) (by simp) s h
      refine ⟨_, _, _, .draws ops.size (by rw [hr, s.nx]; exact h1) ?_ (by rw [s.nx]; exact h4) h5, h2, h6⟩
      rw [fpsW_eq s (fun i o d ho hd => h7 o (by have := Array.mem_of_getElem? ho; simpa using this) d hd)]
      exact h3
  | seq a b iha ihb =>
    intro τ σ K s h
    obtain ⟨out, σ', τ', h1, h2, h3⟩ := iha s h
    cases out with
    | norm =>
      obtain ⟨τ1, hg, h3⟩ := h3
      obtain ⟨σ1, s1, hg⟩ := hg.go _ h2
      obtain ⟨out, σ'', τ'', g1, g2, g3⟩ := ihb s1 h3
      exact ⟨_, _, _, .seq h1 (.ghost hg g1), g2, g3⟩
    | exit m => exact ⟨_, _, _, .seqOut h1 (by simp), h2, h3⟩
    | ret => exact ⟨_, _, _, .seqOut h1 (by simp), h2, h3⟩
  | cond c a b iha ihb =>
    intro τ σ K s h
    unfold wCode at h
    split at h
    · rename_i t e
      have e' : evT σ.t c = .v false [.prim (.bool t)] := by rw [s.evf]; exact e
      cases t with
      | true =>
        obtain ⟨out, σ', τ', h1, h2, h3⟩ := iha s h
        exact ⟨_, _, _, .cond e' h1, h2, h3⟩
      | false =>
        obtain ⟨out, σ', τ', h1, h2, h3⟩ := ihb s h
        exact ⟨_, _, _, .cond e' h1, h2, h3⟩
    · exact h.elim
  | block id c ih =>
    intro τ σ K s h
    obtain ⟨out, σ', τ', h1, h2, h3⟩ := ih s h
    refine ⟨_, _, _, .block h1, h2, ?_⟩
    cases out with
    | norm => exact h3
    | ret => exact h3
    | exit m =>
      simp only at h3
      show K (if m = id then Out.norm else Out.exit m) τ'
      cases e : Nat.beq m id with
      | true => rw [e] at h3; rw [if_pos (Nat.eq_of_beq_eq_true e)]; exact h3
      | false => rw [e] at h3; rw [if_neg (fun q => by subst q; simp at e)]; exact h3
  | loop c ih =>
    intro τ σ K s h
    obtain ⟨ι, I, μ, i0, hg, hI⟩ := h
    have go : ∀ (m : Nat) (i : ι) (σ : St), μ i = m → Sim (I i) σ → ∃ out σ' τ', D P X (.loop n c σ out σ') ∧ Sim τ' σ' ∧ K out τ' := by
      intro m
      induction m using Nat.strongRecOn with
      | _ m ihm =>
        intro i σ hm s
        obtain ⟨out, σ', τ', h1, h2, h3⟩ := ih s (hI i)
        cases out with
        | norm =>
          obtain ⟨j, hj, hgj⟩ := h3
          obtain ⟨σ1, g1, g2⟩ := hgj.go σ' h2
          obtain ⟨out, σ'', τ'', k1, k2, k3⟩ := ihm (μ j) (by omega) j σ1 rfl g1
          exact ⟨_, _, _, .loopGo h1 (.ghostL g2 k1), k2, k3⟩
        | exit m => exact ⟨_, _, _, .loopEnd h1 (by simp), h2, h3⟩
        | ret => exact ⟨_, _, _, .loopEnd h1 (by simp), h2, h3⟩
    obtain ⟨σ1, g1, g2⟩ := hg.go σ s
    obtain ⟨out, σ', τ', h1, h2, h3⟩ := go _ i0 σ1 rfl g1
    exact ⟨_, _, _, .loop (.ghostL g2 h1), h2, h3⟩
  | _ => intro τ σ K s h; exact h.elim

end
end

section
open Go Go.RowKit

def idx {α : Type} : Nat → List α → List (Nat × α)
  | _, [] => []
  | i, v :: l => (i, v) :: idx (i + 1) l

theorem look_idx {α : Type} (d : α) : ∀ (l : List α) (i0 j : Nat), i0 ≤ j → look d (idx i0 l) j = l.getD (j - i0) d
  | [], _, _, _ => by simp [idx, look]
  | v :: l, i0, j, h => by
    rw [idx, look_cons]
    by_cases e : i0 = j
    · subst e; simp
    · rw [if_neg e, look_idx d l (i0 + 1) j (by omega)]
      rw [show j - i0 = (j - (i0 + 1)) + 1 by omega, List.getD_cons_succ]

def initW (as : List Arg) (ntmps : Nat) : W := ⟨idx 0 (argTVs 0 as), idx 0 (as.map Arg.node), as.length, as.length + (ntmps - as.length)⟩

theorem argTVs_len : ∀ (as : List Arg) (j : Nat), (argTVs j as).length = as.length
  | [], _ => rfl
  | a :: as, j => by simp [argTVs, argTVs_len as]

theorem init_sim (as : List Arg) (ntmps : Nat) : Sim (initW as ntmps) (initS as ntmps) := by
  refine ⟨fun i => ?_, fun i => ?_, by simp [initW, initS], by simp [initW, initS, argTVs_len]⟩
  · show (argTVs 0 as ++ List.replicate (ntmps - as.length) TV.undef).getD i .undef = look .undef (idx 0 (argTVs 0 as)) i
    rw [look_idx _ _ _ _ (Nat.zero_le _), Nat.sub_zero]
    simp only [List.getD_eq_getElem?_getD]
    by_cases hi : i < (argTVs 0 as).length
    · rw [List.getElem?_append_left hi]
    · rw [List.getElem?_append_right (by omega), List.getElem?_replicate, List.getElem?_eq_none (by omega)]
      split <;> rfl
  · show ndOf (as.map Arg.node) i = look none (idx 0 (as.map Arg.node)) i
    rw [look_idx _ _ _ _ (Nat.zero_le _), Nat.sub_zero]
    unfold ndOf
    rw [List.getD_eq_getElem?_getD]
    cases (as.map Arg.node)[i]? <;> rfl

def resW (P : Program) (τ : W) (r : ResultVar) (K : Bool → List Cell → Prop) : Prop :=
  match r with
  | .tmp t => match τ.tv t with
    | .v b l => K b l
    | _ => False
  | .cell a ty => match τ.tv a, szT P ty, rowT P ty with
    | .v false [.ptr id off], some s, some r => match τ.nd id, (r || decide (s = 1)) && decide (s ≠ 0) with
      | some (_, cs), true => ∃ l, cut cs off s = some l ∧ match noOwn l with
        | true => fl l fun l => K r l
        | false => False
      | _, _ => False
    | _, _, _ => False

theorem resW_ok {P : Program} {τ : W} {σ : St} (s : Sim τ σ) {r : ResultVar} {K : Bool → List Cell → Prop} (h : resW P τ r K) : ∃ b l, resVarT P σ r = some (b, l) ∧ K b l := by
  unfold resW at h
  split at h
  · rename_i t
    split at h
    · rename_i b l e
      exact ⟨b, l, by simp only [resVarT, s.tv, e], h⟩
    · exact h.elim
  · rename_i a ty
    split at h
    · rename_i id off sz r e hs hr
      split at h
      · rename_i o cs hid hd
        simp only [Bool.and_eq_true, Bool.or_eq_true, decide_eq_true_eq] at hd
        obtain ⟨l, h1, h⟩ := h
        split at h
        · rename_i hn
          obtain ⟨g1, rfl⟩ := cut_ne h1 hd.2
          refine ⟨_, _, ?_, fl_ok h⟩
          simp only [resVarT, s.tv, s.nd, e, hs, hr, hid]
          rw [if_pos ⟨hd.1, g1, hn⟩]
        · exact h.elim
      · exact h.elim
    · exact h.elim

/-- `zs`: the element sizes of the nil slices within. -/
def exLW (nd : Nat → Option Node) : List Nat → List Cell → (List Cell → List Nat → Prop) → Prop
  | _, [], K => K [] []
  | zs, c :: cs, K => match c with
    | .prim v => exLW nd zs cs fun l u => K (.prim v :: l) u
    | .nil => match zs with
      | [] => exLW nd [] cs fun l u => K (.nil :: l) u
      | s :: zs => exLW nd zs cs fun l u => K (.sl true 0 s [] :: l) u
    | .sl false n s x => exLW nd zs cs fun l u => K (.sl false n s x :: l) u
    | .ref id off n s => match nd id with
      | some (true, cs') => (off = 0 ∧ cs'.length = n * s ∧ s ≠ 0 ∧ cs'.all Cell.shal = true) ∧ exLW nd zs cs fun l u => K (.sl true n s cs' :: l) (id :: u)
      | some (false, cs') => (off + n * s ≤ cs'.length ∧ ((cs'.drop off).take (n * s)).all Cell.shal = true) ∧ ∃ x, (cs'.drop off).take (n * s) = x ∧ exLW nd zs cs fun l u => K (.sl false n s x :: l) u
      | none => False
    | .ptr id off => match nd id with
      | some (true, cs') => (off = 0 ∧ cs'.isEmpty = false ∧ cs'.all Cell.shal = true) ∧ exLW nd zs cs fun l u => K (.op cs' :: l) (id :: u)
      | _ => False
    | _ => False

theorem exLW_ok {nd : Nat → Option Node} : ∀ {cs : List Cell} {zs : List Nat} {K : List Cell → List Nat → Prop}, exLW nd zs cs K → ∃ l u, exL nd zs cs = some (l, u) ∧ K l u
  | [], zs, K, h => by cases zs <;> exact ⟨_, _, rfl, h⟩
  | c :: cs, zs, K, h => by
    have step : ∀ {c' : Cell} {i : List Nat}, (∀ s zs', zs = s :: zs' → c ≠ .nil) → exC nd c = some (c', i) → (∃ l u, exL nd zs cs = some (l, u) ∧ K (c' :: l) (i ++ u)) → ∃ l u, exL nd zs (c :: cs) = some (l, u) ∧ K l u := by
      intro c' i hn h1 h2
      obtain ⟨l, u, h3, h4⟩ := h2
      refine ⟨_, _, ?_, h4⟩
      cases zs with
      | nil => simp only [exL, h1, h3]
      | cons s zs' =>
        cases c with
        | nil => exact absurd rfl (hn s zs' rfl)
        | _ => simp only [exL, h1, h3]
    unfold exLW at h
    split at h
    · obtain ⟨l, u, h1, h2⟩ := exLW_ok h
      exact step (i := []) (by simp) rfl ⟨l, u, h1, h2⟩
    · split at h
      · obtain ⟨l, u, h1, h2⟩ := exLW_ok h
        exact step (i := []) (fun s zs' e => by cases e) rfl ⟨l, u, h1, h2⟩
      · obtain ⟨l, u, h1, h2⟩ := exLW_ok h
        exact ⟨_, _, by simp only [exL, h1], h2⟩
    · obtain ⟨l, u, h1, h2⟩ := exLW_ok h
      exact step (i := []) (by simp) rfl ⟨l, u, h1, h2⟩
    · rename_i id off n s
      split at h
      · rename_i cs' hid
        obtain ⟨hc, h⟩ := h
        obtain ⟨l, u, h1, h2⟩ := exLW_ok h
        exact step (i := [id]) (by simp) (by simp only [exC, hid]; rw [if_pos hc]) ⟨l, u, h1, h2⟩
      · rename_i cs' hid
        obtain ⟨hc, x, rfl, h⟩ := h
        obtain ⟨l, u, h1, h2⟩ := exLW_ok h
        exact step (i := []) (by simp) (by simp only [exC, hid]; rw [if_pos hc]) ⟨l, u, h1, h2⟩
      · exact h.elim
    · rename_i id off
      split at h
      · rename_i cs' hid
        obtain ⟨hc, h⟩ := h
        obtain ⟨l, u, h1, h2⟩ := exLW_ok h
        exact step (i := [id]) (by simp) (by simp only [exC, hid]; rw [if_pos hc]) ⟨l, u, h1, h2⟩
      · exact h.elim
    · exact h.elim

def finVW (P : Program) (τ : W) : List ResultVar → List (List Nat) → (List (Bool × List Cell) → List Nat → Prop) → Prop
  | [], _, K => K [] []
  | r :: rs, zs, K => resW P τ r fun b l => exLW τ.nd (zs.headD []) l fun l' u => finVW P τ rs zs.tail fun vs us => K ((b, l') :: vs) (u ++ us)

theorem finVW_ok {P : Program} {τ : W} {σ : St} (s : Sim τ σ) : ∀ {rs : List ResultVar} {zs : List (List Nat)} {K : List (Bool × List Cell) → List Nat → Prop}, finVW P τ rs zs K →
    ∃ rv vals used, resVarsT P σ rs = some rv ∧ exV σ.nd zs rv = some (vals, used) ∧ K vals used
  | [], zs, K, h => ⟨[], [], [], rfl, by cases zs <;> rfl, h⟩
  | r :: rs, zs, K, h => by
    obtain ⟨b, l, h1, h⟩ := resW_ok s h
    obtain ⟨l', u, h2, h⟩ := exLW_ok h
    obtain ⟨rv, vals, used, h3, h4, h5⟩ := finVW_ok s h
    refine ⟨(b, l) :: rv, _, _, by simp only [resVarsT, h1, h3], ?_, h5⟩
    rw [← s.ndf] at h2
    simp only [exV, h2, h4]

def outsW (nd : Nat → Option Node) (used : List Nat) : Nat → List Arg → (List (Option (List Cell)) → Prop) → Prop
  | _, [], K => K []
  | j, a :: as, K => match a with
    | .val _ _ => outsW nd used (j + 1) as fun os => K (none :: os)
    | _ => match used.contains j with
      | true => outsW nd used (j + 1) as fun os => K (none :: os)
      | false => match nd j with
        | some (true, cs) => cs.all Cell.shal = true ∧ outsW nd used (j + 1) as fun os => K (some cs :: os)
        | _ => outsW nd used (j + 1) as fun os => K (none :: os)

theorem outsW_ok {nd : Nat → Option Node} {used : List Nat} : ∀ {as : List Arg} {j : Nat} {K : List (Option (List Cell)) → Prop}, outsW nd used j as K → K (outsT nd used j as)
  | [], _, _, h => h
  | a :: as, j, K, h => by
    unfold outsW at h
    split at h
    · exact outsW_ok (as := as) (K := fun os => K (none :: os)) h
    · rename_i hne
      have e1 : outT nd used j a = if used.contains j then none else match nd j with | some (true, cs) => if cs.all Cell.shal = true then some cs else none | _ => none := by
        cases a with
        | val b l => exact (hne b l rfl).elim
        | _ => rfl
      split at h
      · rename_i hu
        have := outsW_ok (as := as) (K := fun os => K (none :: os)) h
        simp only [outsT, e1, hu, if_true]; exact this
      · rename_i hu
        split at h
        · rename_i cs hj
          have := outsW_ok (as := as) (K := fun os => K (some cs :: os)) h.2
          simp only [outsT, e1, hu, hj, h.1, if_true]; exact this
        · rename_i hj
          have := outsW_ok (as := as) (K := fun os => K (none :: os)) h
          have e : outT nd used j a = none := by
            rw [e1, hu, if_neg (by simp)]
            cases hq : nd j with
            | none => rfl
            | some q =>
              obtain ⟨o, cs⟩ := q
              cases o with
              | false => rfl
              | true => exact (hj cs hq).elim
          simp only [outsT]
          rw [e]; exact this

def finW (P : Program) (fn : Func) (zs : List (List Nat)) (τ : W) (as : List Arg) (K : List (Bool × List Cell) → List (Option (List Cell)) → Prop) : Prop :=
  finVW P τ fn.results.toList zs fun vals used => match decide used.Nodup with
    | true => outsW τ.nd used 0 as fun outs => K vals outs
    | false => False

theorem finW_ok {P : Program} {fn : Func} {zs : List (List Nat)} {τ : W} {σ : St} {as : List Arg} {K : List (Bool × List Cell) → List (Option (List Cell)) → Prop} (s : Sim τ σ) (h : finW P fn zs τ as K) :
    ∃ vals outs, finT P fn zs σ as = some (vals, outs) ∧ K vals outs := by
  obtain ⟨rv, vals, used, h1, h2, h⟩ := finVW_ok s h
  split at h
  · rename_i hd
    have hd := of_decide_eq_true hd
    have h3 := outsW_ok h
    refine ⟨_, _, ?_, h3⟩
    simp only [finT, h1, h2]
    rw [if_pos hd, s.ndf]
  · exact h.elim

/-- A FUNCTION DOES WHAT ITS CODE DOES. -/
theorem w_call {P : Program} {X : FuncId → List Arg → List (Bool × List Cell) → List (Option (List Cell)) → Prop} (md : FuncId → List Mode) {f : FuncId} {fn : Func} {c : Code} {as : List Arg} {vals : List (Bool × List Cell)} {outs : List (Option (List Cell))} (zs : List (List Nat))
    (hf : P.funcs[f]? = some fn) (hb : fn.body = some c)
    (h : wCode P X md as.length c (initW as fn.ntmps) fun o τ => match o with
      | .exit _ => False
      | _ => ∃ τ1, WGh as.length τ τ1 ∧ finW P fn zs τ1 as fun v o => v = vals ∧ o = outs) (hx : (noEx as || Nat.ble as.length fn.ntmps) = true := by rfl) : D P X (.call f as vals outs) := by
  obtain ⟨out, σ', τ', h1, h2, h3⟩ := wCode_ok (init_sim as fn.ntmps) h
  have go : (∃ τ1, WGh as.length τ' τ1 ∧ finW P fn zs τ1 as fun v o => v = vals ∧ o = outs) → (out = .norm ∨ out = .ret) → D P X (.call f as vals outs) := by
    rintro ⟨τ1, hg, h4⟩ ho
    obtain ⟨σ1, s1, g⟩ := hg.go _ h2
    obtain ⟨v, o, h5, rfl, rfl⟩ := finW_ok s1 h4
    exact .call zs hf hb hx (.ghostE h1 g) ho h5
  cases out with
  | norm => exact go h3 (.inl rfl)
  | ret => exact go h3 (.inr rfl)
  | exit m => exact h3.elim
end

section
open Go Go.RowKit

def tsOK (τ : W) (ρ : List Nat) : List (Nat × TV) → Prop
  | [] => True
  | (i, v) :: l => renTV ρ (τ.tv i) = v ∧ tsOK τ ρ l

def hsOK (τ : W) (ρ : List Nat) : List (Nat × Bool) → List (Option Node) → Prop
  | [], [] => True
  | (i, f) :: r, m :: l => (match m with
    | none => True
    | some (o, cs) => ∃ cs0, τ.nd i = some (o, cs0) ∧ match f with
      | true => cs0.map (renC ρ) = cs
      | false => closedL cs0 = true ∧ cs0 = cs) ∧ hsOK τ ρ r l
  | _, _ => False

theorem tsOK_get {τ : W} {ρ : List Nat} : ∀ {l : List (Nat × TV)} (_ : tsOK τ ρ l) (i : Nat), look .undef l i = .undef ∨ look .undef l i = renTV ρ (τ.tv i)
  | [], _, _ => .inl rfl
  | (j, v) :: l, h, i => by
    rw [look_cons]
    by_cases e : j = i
    · subst e; rw [if_pos rfl]; exact .inr h.1.symm
    · rw [if_neg e]; exact tsOK_get h.2 i

theorem hsOK_len {τ : W} {ρ : List Nat} : ∀ {r : List (Nat × Bool)} {l : List (Option Node)}, hsOK τ ρ r l → l.length = r.length
  | [], [], _ => rfl
  | (_, _) :: r, _ :: l, h => by simp [hsOK_len h.2]
  | [], _ :: _, h => h.elim
  | (_, _) :: _, [], h => h.elim

theorem hsOK_get {τ : W} {ρ : List Nat} : ∀ {r : List (Nat × Bool)} {l : List (Option Node)}, hsOK τ ρ r l → ∀ (j : Nat) o cs, l[j]? = some (some (o, cs)) → ∃ p cs0, r[j]? = some p ∧ τ.nd p.1 = some (o, cs0) ∧ (if p.2 then cs0.map (renC ρ) else cs0) = cs ∧ (p.2 = false → closedL cs0 = true)
  | [], [], _, j, o, cs, h => by simp at h
  | (i, f) :: r, m :: l, h, 0, o, cs, hj => by
    obtain rfl := Option.some.inj hj
    obtain ⟨⟨cs0, h1, h2⟩, _⟩ := h
    refine ⟨(i, f), cs0, rfl, h1, ?_⟩
    cases f with
    | true => exact ⟨h2, fun e => by cases e⟩
    | false => exact ⟨h2.2, fun _ => h2.1⟩
  | (i, f) :: r, m :: l, h, j + 1, o, cs, hj => hsOK_get h.2 j o cs hj
  | [], _ :: _, h, _, _, _, _ => h.elim
  | (_, _) :: _, [], h, _, _, _, _ => h.elim

/-- No node is kept twice. -/
def keptN (ρ : List (Nat × Bool)) (hs : List (Option Node)) : Bool :=
  decide (((ρ.zip hs).filter fun p => match p.2 with | some _ => true | none => false).map (·.1.1)).Nodup

theorem keptN_ok : ∀ {ρ : List (Nat × Bool)} {hs : List (Option Node)}, (((ρ.zip hs).filter fun p => match p.2 with | some _ => true | none => false).map (·.1.1)).Nodup → ∀ (i j : Nat) nd nd' p q, hs[i]? = some (some nd) → hs[j]? = some (some nd') → ρ[i]? = some p → ρ[j]? = some q → p.1 = q.1 → i = j
  | [], _, _, i, j, _, _, _, _, _, _, h, _, _ => by simp at h
  | _ :: _, [], _, i, j, _, _, _, _, h, _, _, _, _ => by simp at h
  | r :: ρ, m :: hs, hn, i, j, nd, nd', p, q, h1, h2, h3, h4, he => by
    have mem : ∀ {ρ : List (Nat × Bool)} {hs : List (Option Node)} (i : Nat) nd p, hs[i]? = some (some nd) → ρ[i]? = some p → p.1 ∈ ((ρ.zip hs).filter fun p => match p.2 with | some _ => true | none => false).map (·.1.1) := by
      intro ρ hs i nd p h1 h2
      refine List.mem_map.2 ⟨(p, some nd), List.mem_filter.2 ⟨?_, rfl⟩, rfl⟩
      exact List.mem_of_getElem? (i := i) (by rw [List.getElem?_zip_eq_some]; exact ⟨h2, h1⟩)
    have tl : (((ρ.zip hs).filter fun p => match p.2 with | some _ => true | none => false).map (·.1.1)).Nodup := by
      simp only [List.zip_cons_cons, List.filter_cons] at hn
      split at hn
      · exact (List.nodup_cons.1 hn).2
      · exact hn
    have hd : ∀ nd, m = some nd → r.1 ∉ ((ρ.zip hs).filter fun p => match p.2 with | some _ => true | none => false).map (·.1.1) := by
      intro nd e
      subst e
      simp only [List.zip_cons_cons, List.filter_cons, if_true, List.map_cons] at hn
      exact (List.nodup_cons.1 hn).1
    cases i with
    | zero =>
      obtain rfl := Option.some.inj h1
      obtain rfl := Option.some.inj h3
      cases j with
      | zero => rfl
      | succ j => exact absurd (by rw [he]; exact mem j nd' q h2 h4) (hd nd rfl)
    | succ i =>
      cases j with
      | zero =>
        obtain rfl := Option.some.inj h2
        obtain rfl := Option.some.inj h4
        exact absurd (by rw [← he]; exact mem i nd p h1 h3) (hd nd' rfl)
      | succ j => rw [keptN_ok tl i j nd nd' p q h1 h2 h3 h4 he]

/-- Temps and nodes that are kept, with new numbers for the nodes (`ρ`: the old number of each; does it lead to others?). -/
theorem w_ren {n : Nat} {τ : W} (ρ : List (Nat × Bool)) {t : List (Nat × TV)} {hs : List (Option Node)} {nx tn : Nat} (hn : (ρ.take n).map (·.1) = List.range n) (hd : keptN ρ hs = true)
    (hnx : nx = ρ.length) (htn : tn = τ.tn) (ht : tsOK τ (ρ.map (·.1)) t) (hh : hsOK τ (ρ.map (·.1)) ρ hs) : WGh n τ ⟨t, idx 0 hs, nx, tn⟩ := by
  subst hnx htn
  refine ⟨fun σ s => ?_⟩
  have hl := hsOK_len hh
  let σ' : St := ⟨(List.range σ.t.length).map fun i => look .undef t i, hs⟩
  have htv : ∀ i, σ'.tv i = if i < σ.t.length then look .undef t i else .undef := fun i => by
    show ((List.range σ.t.length).map (fun i => look TV.undef t i)).getD i TV.undef = _
    rw [List.getD_eq_getElem?_getD, List.getElem?_map]
    by_cases hi : i < σ.t.length
    · rw [List.getElem?_range hi, if_pos hi]; rfl
    · rw [List.getElem?_eq_none (by simpa using hi), if_neg hi]; rfl
  have hout : ∀ i, ¬ i < σ.t.length → look TV.undef t i = .undef := fun i hi => by
    rcases tsOK_get ht i with e | e
    · exact e
    · rw [e, ← s.tv]
      have : σ.tv i = .undef := by
        unfold St.tv
        rw [List.getD_eq_getElem?_getD, List.getElem?_eq_none (by omega)]; rfl
      rw [this]; rfl
  refine ⟨σ', ⟨fun i => ?_, fun i => ?_, hl, by simp [σ', s.tn]⟩, gh_ren ρ hn (fun i j nd nd' p q h1 h2 h3 h4 h5 => ?_) (fun j nd hj => ?_) (fun i => ?_) (by simp [σ']) hl⟩
  · rw [htv]
    show _ = look .undef t i
    split
    · rfl
    · rename_i hi; exact (hout i hi).symm
  · show ndOf hs i = look none (idx 0 hs) i
    rw [look_idx _ _ _ _ (Nat.zero_le _), Nat.sub_zero]
    unfold ndOf
    rw [List.getD_eq_getElem?_getD]
    cases hs[i]? <;> rfl
  · have un : ∀ (i : Nat) nd, σ'.nd i = some nd → hs[i]? = some (some nd) := fun i nd hi => by
      have : ndOf hs i = some nd := hi
      unfold ndOf at this
      cases hq : hs[i]? with
      | none => rw [hq] at this; cases this
      | some q => rw [hq] at this; exact congrArg some this
    exact keptN_ok (of_decide_eq_true hd) i j nd nd' p q (un i nd h1) (un j nd' h2) h3 h4 h5
  · obtain ⟨o, cs⟩ := nd
    have hj' : hs[j]? = some (some (o, cs)) := by
      have : ndOf hs j = some (o, cs) := hj
      unfold ndOf at this
      cases hq : hs[j]? with
      | none => rw [hq] at this; cases this
      | some q => rw [hq] at this; exact congrArg some this
    obtain ⟨p, cs0, h1, h2, h3, h4⟩ := hsOK_get hh j o cs hj'
    exact ⟨p, cs0, h1, by rw [s.nd]; exact h2, h3.symm, h4⟩
  · rw [htv]
    split
    · rw [s.tv]; exact tsOK_get ht i
    · exact .inl rfl

/-- A T step, told of W states. -/
theorem w_of {n : Nat} {τ τ' : W} (h : ∀ σ, Sim τ σ → ∃ σ', Gh n σ σ' ∧ (∀ i, σ'.tv i = τ'.tv i) ∧ (∀ i, σ'.nd i = τ'.nd i) ∧ σ'.h.length = τ'.nx ∧ σ'.t.length = τ'.tn) : WGh n τ τ' :=
  ⟨fun σ s => by obtain ⟨σ', h1, h2, h3, h4, h5⟩ := h σ s; exact ⟨σ', ⟨h2, h3, h4, h5⟩, h1⟩⟩

theorem look_setH {τ : W} {σ : St} (s : Sim τ σ) (i : Nat) (m : Option Node) (x : Nat) : ndOf (setH σ.h i m) x = look none ((i, m) :: τ.h) x := by
  rw [ndOf_setH, look_cons]
  unfold upd
  by_cases e : x = i
  · rw [if_pos e, if_pos e.symm]
  · rw [if_neg e, if_neg (fun q => e q.symm)]; exact s.nd x

theorem look_set {τ : W} {σ : St} (s : Sim τ σ) {i : Nat} (hi : i < τ.tn) (v : TV) (x : Nat) : (σ.t.set i v).getD x .undef = look .undef ((i, v) :: τ.t) x := by
  rw [look_cons, List.getD_eq_getElem?_getD, List.getElem?_set]
  by_cases e : i = x
  · rw [if_pos e, if_pos e, if_pos (by rw [s.tn]; exact hi)]; rfl
  · rw [if_neg e, if_neg e]
    have := s.tv x
    unfold St.tv W.tv at this
    rw [List.getD_eq_getElem?_getD] at this; exact this

theorem nd_lt' {τ : W} {σ : St} (s : Sim τ σ) {i : Nat} {m : Node} (h : τ.nd i = some m) : i < τ.nx := by
  rw [← s.nx]; exact nd_lt ((s.nd i).trans h)

theorem w_freeze {n : Nat} {t h nx tn} (i : Nat) {cs cs' : List Cell} (hi : look none h i = some (true, cs)) (hc : roifyL cs = cs') : WGh n ⟨t, h, nx, tn⟩ ⟨t, (i, some (false, cs')) :: h, nx, tn⟩ := by
  subst hc
  refine w_of fun σ s => ⟨_, gh_freeze ((s.nd i).trans hi), s.tv, fun x => look_setH s i _ x, ?_, s.tn⟩
  show (setH σ.h i _).length = nx
  rw [setH_length, s.nx]; have := nd_lt' s hi; simp at this ⊢; omega

theorem w_inline {n : Nat} {t h nx tn} (i j : Nat) {c s' : Nat} {A C cs : List Cell} (hij : i ≠ j) (hi : look none h i = some (true, A ++ [.ref j 0 c s'] ++ C)) (hj : look none h j = some (true, cs)) (hs : cs.all Cell.shal = true) (hl : cs.length = c * s') (hsz : s' ≠ 0) :
    WGh n ⟨t, h, nx, tn⟩ ⟨t, (i, some (true, A ++ [.sl true c s' cs] ++ C)) :: (j, none) :: h, nx, tn⟩ := by
  refine w_of fun σ s => ⟨_, gh_inline hij ((s.nd i).trans hi) ((s.nd j).trans hj) hs hl hsz, s.tv, fun x => ?_, ?_, s.tn⟩
  · show ndOf (setH (setH σ.h j none) i _) x = look none ((i, _) :: (j, none) :: h) x
    rw [ndOf_setH, look_cons]
    unfold upd
    by_cases e : x = i
    · rw [if_pos e, if_pos e.symm]
    · rw [if_neg e, if_neg (fun q => e q.symm)]; exact look_setH s j none x
  · show (setH (setH σ.h j none) i _).length = nx
    rw [setH_length, setH_length, s.nx]; have := nd_lt' s hi; have := nd_lt' s hj; simp at *; omega

theorem w_drawOut {n : Nat} {t h nx tn} (i : Nat) {c s' : Nat} {A C cs : List Cell} (hi : look none h i = some (true, A ++ [.sl true c s' cs] ++ C)) :
    WGh n ⟨t, h, nx, tn⟩ ⟨t, (nx, some (true, cs)) :: (i, some (true, A ++ [.ref nx 0 c s'] ++ C)) :: h, nx + 1, tn⟩ := by
  refine w_of fun σ s => ⟨_, gh_drawOut ((s.nd i).trans hi), s.tv, fun x => ?_, ?_, s.tn⟩
  · have hx : σ.h.length = nx := s.nx
    show ndOf (setH (setH σ.h i _) σ.h.length _) x = look none ((nx, _) :: (i, _) :: h) x
    rw [ndOf_setH, look_cons, hx]
    unfold upd
    by_cases e : x = nx
    · rw [if_pos e, if_pos e.symm]
    · rw [if_neg e, if_neg (fun q => e q.symm)]; exact look_setH s i _ x
  · show (setH (setH σ.h i _) σ.h.length _).length = nx + 1
    rw [setH_length, setH_length, s.nx]; have := nd_lt' s hi; simp at *; omega

theorem w_tmp {n : Nat} {t h nx tn} (i : Nat) {v v' : TV} (hi : look .undef t i = v) (hlt : Nat.blt i tn = true) (hv : TW (look none h) v v') : WGh n ⟨t, h, nx, tn⟩ ⟨(i, v') :: t, h, nx, tn⟩ := by
  subst hi
  refine w_of fun σ s => ⟨_, gh_tmp i (tv' := v') ?_, fun x => look_set s (Nat.le_of_ble_eq_true hlt) v' x, s.nd, s.nx, by simpa using s.tn⟩
  have e1 : σ.nd = look none h := funext s.nd
  rw [s.tv, e1]; exact hv

theorem w_node {n : Nat} {t h nx tn} (i : Nat) {o : Bool} {cs cs' : List Cell} (hi : look none h i = some (o, cs)) (hc : CWs (look none h) cs cs') : WGh n ⟨t, h, nx, tn⟩ ⟨t, (i, some (o, cs')) :: h, nx, tn⟩ := by
  refine w_of fun σ s => ⟨_, gh_node i ((s.nd i).trans hi) (cs' := cs') ?_, s.tv, fun x => look_setH s i _ x, ?_, s.tn⟩
  · have e1 : σ.nd = look none h := funext s.nd
    rw [e1]; exact hc
  · show (setH σ.h i _).length = nx
    rw [setH_length, s.nx]; have := nd_lt' s hi; simp at this ⊢; omega

theorem w_virt {n : Nat} {t h nx tn} (i s' : Nat) (hi : look .undef t i = .v false [.nil]) (hlt : Nat.blt i tn = true) : WGh n ⟨t, h, nx, tn⟩ ⟨(i, .v false [.ref nx 0 0 s']) :: t, (nx, some (true, [])) :: h, nx + 1, tn⟩ := by
  refine w_of fun σ s => ⟨_, gh_virt i s' ((s.tv i).trans hi), fun x => ?_, fun x => ?_, ?_, by simpa using s.tn⟩
  · have hx : σ.h.length = nx := s.nx
    rw [hx]; exact look_set s (Nat.le_of_ble_eq_true hlt) _ x
  · have hx : σ.h.length = nx := s.nx
    rw [hx]; exact look_setH s nx _ x
  · show (setH σ.h σ.h.length _).length = nx + 1
    rw [setH_length, s.nx]; simp
end

section
open Go Go.RowKit

/-! ### New numbers for nodes, found by the temps that are kept -/

/-- Is a number among these? -/
def has (fl : List Nat) (j : Nat) : Bool := match fl with
  | [] => false
  | a :: l => match Nat.beq a j with
    | true => true
    | false => has l j

/-! ### Loops -/

def fn1 (m : Option Node) (K : Option Node → Prop) : Prop := match m with
  | none => K none
  | some (o, cs) => K (some (o, cs))

theorem fn1_ok {m : Option Node} {K : Option Node → Prop} (h : fn1 m K) : K m := by
  cases m with
  | none => exact h
  | some p => obtain ⟨o, cs⟩ := p; exact h

def keepT (t : List (Nat × TV)) : List Nat → (List (Nat × TV) → Prop) → Prop
  | [], K => K []
  | i :: is, K => fv (look .undef t i) fun v => keepT t is fun l => K ((i, v) :: l)

theorem keepT_ok {t : List (Nat × TV)} : ∀ {is : List Nat} {K : List (Nat × TV) → Prop}, keepT t is K → ∃ l, K l
  | [], _, h => ⟨_, h⟩
  | i :: is, K, h => by
    have h1 := fv_ok (K := fun v => keepT t is fun l => K ((i, v) :: l)) h
    obtain ⟨l, h2⟩ := keepT_ok h1
    exact ⟨_, h2⟩

def keepN {ι : Type} (h : List (Nat × Option Node)) : Nat → List (Option (ι → Option Node)) → (List (ι → Option Node) → Prop) → Prop
  | _, [], K => K []
  | j, m :: s, K => match m with
    | none => fn1 (look none h j) fun m => keepN h (j + 1) s fun l => K ((fun _ => m) :: l)
    | some f => keepN h (j + 1) s fun l => K (f :: l)

theorem keepN_ok {ι : Type} {h : List (Nat × Option Node)} : ∀ {s : List (Option (ι → Option Node))} {j : Nat} {K : List (ι → Option Node) → Prop}, keepN h j s K → ∃ l, K l
  | [], _, _, hh => ⟨_, hh⟩
  | none :: s, j, K, hh => by
    have h1 := fn1_ok (K := fun m => keepN h (j + 1) s fun l => K ((fun _ => m) :: l)) hh
    obtain ⟨l, h2⟩ := keepN_ok h1
    exact ⟨_, h2⟩
  | some f :: s, j, K, hh => by
    obtain ⟨l, h2⟩ := keepN_ok (K := fun l => K (f :: l)) hh
    exact ⟨_, h2⟩

/-- The temps `kt` and the nodes told `none` stay as they are; the others are told by `i`. -/
abbrev stI {ι : Type} (vt : ι → List (Nat × TV)) (T : List (Nat × TV)) (l : List (ι → Option Node)) (tn : Nat) (i : ι) : W := ⟨vt i ++ T, idx 0 (l.map fun f => f i), l.length, tn⟩

theorem loopk {P : Program} {X : FuncId → List Arg → List (Bool × List Cell) → List (Option (List Cell)) → Prop} {md : FuncId → List Mode} {n : Nat} {c : Code} {τ : W} {E : Nat → W → Prop} {R : W → Prop} {ι : Type} (Inv : ι → Prop) (μ : ι → Nat) (i0 : ι)
    (kt : List Nat) (vt : ι → List (Nat × TV)) (sl : List (Option (ι → Option Node)))
    (h : keepT τ.t kt fun T => keepN τ.h 0 sl fun l => Inv i0 ∧ WGh n τ (stI vt T l τ.tn i0) ∧ ∀ i, Inv i → wCode P X md n c (stI vt T l τ.tn i) fun o τ' => match o with
      | .norm => ∃ j : { i : ι // Inv i }, μ j.1 < μ i ∧ WGh n τ' (stI vt T l τ.tn j.1)
      | .exit m => E m τ'
      | .ret => R τ') :
    ∃ (ι : Type) (I : ι → W) (μ : ι → Nat) (i0 : ι), WGh n τ (I i0) ∧ ∀ i, wCode P X md n c (I i) fun o τ' => match o with
      | .norm => ∃ j, μ j < μ i ∧ WGh n τ' (I j)
      | .exit m => E m τ'
      | .ret => R τ' := by
  obtain ⟨T, h⟩ := keepT_ok h
  obtain ⟨l, h1, h2, h3⟩ := keepN_ok h
  exact ⟨{ i : ι // Inv i }, fun i => stI vt T l τ.tn i.1, fun i => μ i.1, ⟨i0, h1⟩, h2, fun i => h3 i.1 i.2⟩
end

section
open Go Go.RowKit Go.IntWalk

/-- How lists of values lie in memory, each value in `sz` cells. -/
class Enc (α : Type) where
  sz : Nat
  cs : Bool → List α → List Cell
  nil : ∀ o, cs o [] = []
  app : ∀ o xs ys, cs o (xs ++ ys) = cs o xs ++ cs o ys
  len : ∀ o x, (cs o [x]).length = sz
  shal : ∀ o x, (cs o [x]).all Cell.shal = true
  clo : ∀ o x, closedL (cs o [x]) = true
  ro : ∀ o x, roifyL (cs o [x]) = cs false [x]
  now : ∀ x, noOwn (cs false [x]) = true
  pu : ∀ x, pureL (cs true [x]) = true

open Enc (sz cs)

/-- A slice of these. -/
abbrev slE {α : Type} [Enc α] (o : Bool) (xs : List α) : Cell := .sl o xs.length (sz α) (cs o xs)

/-- A node that is one. -/
abbrev nE {α : Type} [Enc α] (xs : List α) : Option Node := some (true, cs true xs)

abbrev rE {α : Type} [Enc α] (id : Nat) (xs : List α) : TV := .v false [.ref id 0 xs.length (sz α)]

section

variable {α : Type} [Enc α] {o o' : Bool} {xs ys : List α} {i id : Nat}

theorem cs_cons (x : α) (xs : List α) : cs o (x :: xs) = cs o [x] ++ cs o xs := Enc.app o [x] xs

@[simp] theorem cs_len : ∀ xs : List α, (cs o xs).length = xs.length * sz α
  | [] => by rw [Enc.nil]; simp
  | x :: xs => by rw [cs_cons, List.length_append, Enc.len, cs_len xs, List.length_cons, Nat.succ_mul, Nat.add_comm]

@[simp] theorem cs_shal : ∀ xs : List α, (cs o xs).all Cell.shal = true
  | [] => by rw [Enc.nil]; rfl
  | x :: xs => by rw [cs_cons, List.all_append, Enc.shal, cs_shal xs]; rfl

@[simp] theorem cs_clo : ∀ xs : List α, closedL (cs o xs) = true
  | [] => by rw [Enc.nil]; rfl
  | x :: xs => by rw [cs_cons, closedL_append, Enc.clo, cs_clo xs]; rfl

@[simp] theorem cs_now : ∀ xs : List α, noOwn (cs false xs) = true
  | [] => by rw [Enc.nil]; rfl
  | x :: xs => by
    have h1 := Enc.now x
    have h2 := cs_now xs
    rw [cs_cons]
    unfold noOwn at *
    rw [List.all_append, h1, h2]; rfl

theorem pureL_app : ∀ a b : List Cell, pureL (a ++ b) = (pureL a && pureL b)
  | [], _ => rfl
  | c :: a, b => by simp [pureL, pureL_app a b, Bool.and_assoc]

@[simp] theorem cs_pure : ∀ xs : List α, pureL (cs true xs) = true
  | [] => by rw [Enc.nil]; rfl
  | x :: xs => by rw [cs_cons, pureL_app, Enc.pu, cs_pure xs]; rfl

@[simp] theorem cs_ro : ∀ xs : List α, roifyL (cs o xs) = cs false xs
  | [] => by rw [Enc.nil, Enc.nil]; rfl
  | x :: xs => by rw [cs_cons, cs_cons (o := false), roifyL_append, Enc.ro, cs_ro xs]

theorem cs_whole : ((cs o xs).drop 0).take (xs.length * sz α) = cs o xs := by
  rw [List.drop_zero, List.take_of_length_le (by rw [cs_len]; exact Nat.le_refl _)]

theorem cs_split (h : i < xs.length) : cs o xs = cs o (xs.take i) ++ cs o [xs[i]] ++ cs o (xs.drop (i + 1)) := by
  rw [← Enc.app, ← Enc.app]
  congr 1
  rw [List.append_assoc, List.singleton_append, List.getElem_cons_drop, List.take_append_drop]

theorem cs_take_len (h : i ≤ xs.length) : (cs o (xs.take i)).length = i * sz α := by rw [cs_len, List.length_take, Nat.min_eq_left h]

/-! ### Reading -/

theorem rd {s : Nat} (h : i < xs.length) (hs : sz α = s := by rfl) : ((cs o xs).drop (((i : Nat) : Int).toNat * s)).take s = cs o [xs[i]] := by
  subst hs
  rw [Int.toNat_natCast, cs_split h, List.append_assoc, List.drop_left' (cs_take_len (by omega)), List.take_left' (Enc.len o _)]

theorem ofs {i s : Nat} : 0 + ((i : Nat) : Int).toNat * s = i * s := by rw [Int.toNat_natCast, Nat.zero_add]

theorem cut_app : ∀ {A l : List Cell} {off n : Nat}, cut (A ++ l) (A.length + off) n = cut l off n
  | [], l, off, n => by simp
  | a :: A, l, off, 0 => by
    have e : ∀ (l : List Cell) (k : Nat), cut l k 0 = some [] := fun l k => by cases l <;> rfl
    rw [e, e]
  | a :: A, l, off, n + 1 => by
    rw [List.length_cons, Nat.add_right_comm]
    show cut (A ++ l) (A.length + off) (n + 1) = _
    exact cut_app

theorem cut_pre : ∀ {l C : List Cell} {off n : Nat}, off + n ≤ l.length → cut (l ++ C) off n = cut l off n
  | l, C, off, 0, _ => by
    have e : ∀ (l : List Cell) (k : Nat), cut l k 0 = some [] := fun l k => by cases l <;> rfl
    rw [e, e]
  | [], C, off, n + 1, h => by simp at h
  | a :: l, C, 0, n + 1, h => by
    show (cut (l ++ C) 0 n).map _ = (cut l 0 n).map _
    rw [cut_pre (by simp at h ⊢; omega)]
  | a :: l, C, off + 1, n + 1, h => by
    show cut (l ++ C) off (n + 1) = cut l off (n + 1)
    exact cut_pre (by simp at h ⊢; omega)

theorem cut_mid {A M C : List Cell} {p off n : Nat} (hp : p = A.length) (h : off + n ≤ M.length) : cut (A ++ M ++ C) (p + off) n = cut M off n := by
  rw [List.append_assoc, hp, cut_app, cut_pre h]

theorem put_app : ∀ {A l x : List Cell} {off : Nat}, put (A ++ l) (A.length + off) x = (put l off x).map (A ++ ·)
  | [], l, x, off => by
    simp
  | a :: A, l, x, off => by
    rw [List.length_cons, Nat.add_right_comm]
    show (put (A ++ l) (A.length + off) x).map (a :: ·) = _
    rw [put_app, Option.map_map]; rfl

theorem put_pre : ∀ {l C x r : List Cell} {off : Nat}, put l off x = some r → put (l ++ C) off x = some (r ++ C)
  | l, C, [], r, 0, h => by
    have h1 : some l = some r := by cases l <;> exact h
    obtain rfl := Option.some.inj h1
    cases l with
    | nil => cases C <;> rfl
    | cons a l => rfl
  | [], C, _ :: _, r, 0, h => by simp [put] at h
  | [], C, x, r, off + 1, h => by simp [put] at h
  | a :: l, C, x :: xs, r, 0, h => by
    obtain ⟨r', h1, rfl⟩ := Option.map_eq_some_iff.1 h
    show (put (l ++ C) 0 xs).map _ = _
    rw [put_pre h1]; rfl
  | a :: l, C, xs, r, off + 1, h => by
    obtain ⟨r', h1, rfl⟩ := Option.map_eq_some_iff.1 h
    show (put (l ++ C) off xs).map _ = _
    rw [put_pre h1]; rfl

theorem put_mid {A M C x r : List Cell} {p off : Nat} (hp : p = A.length) (h : put M off x = some r) : put (A ++ M ++ C) (p + off) x = some (A ++ r ++ C) := by
  rw [List.append_assoc, hp, put_app, put_pre h, List.append_assoc]; rfl

theorem cut_all : ∀ {l : List Cell} {n : Nat}, l.length = n → cut l 0 n = some l
  | [], 0, _ => rfl
  | a :: l, n + 1, h => by
    show (cut l 0 n).map _ = _
    rw [cut_all (by simpa using h)]; rfl
  | [], _ + 1, h => by simp at h
  | _ :: _, 0, h => by simp at h

theorem put_all : ∀ {l x : List Cell}, l.length = x.length → put l 0 x = some x
  | [], [], _ => rfl
  | a :: l, y :: x, h => by
    show (put l 0 x).map _ = _
    rw [put_all (by simpa using h)]; rfl
  | [], _ :: _, h => by simp at h
  | _ :: _, [], h => by simp at h

/-- A part of an element, out of memory. -/
theorem ct {s : Nat} (h : i < xs.length) {off n : Nat} (hn : off + n ≤ s) (hs : sz α = s := by rfl) : cut (cs o xs) (i * s + off) n = cut (cs o [xs[i]]) off n := by
  subst hs
  rw [cs_split h, cut_mid (cs_take_len (by omega)).symm (by rw [Enc.len]; exact hn)]

theorem ct0 {s : Nat} (h : i < xs.length) (hs : sz α = s := by rfl) : cut (cs o xs) (i * s) s = some (cs o [xs[i]]) := by
  subst hs
  rw [← Nat.add_zero (i * sz α), ct h (by omega), cut_all (Enc.len o _)]

/-- An element, into memory. -/
theorem pt0 {s : Nat} {c : List Cell} (h : i < xs.length) (y : α) (hc : c = cs o [y]) (hs : sz α = s := by rfl) : put (cs o xs) (i * s) c = some (cs o (xs.set i y)) := by
  subst hc hs
  have e : xs.set i y = xs.take i ++ [y] ++ xs.drop (i + 1) := by
    rw [List.set_eq_take_append_cons_drop, if_pos h]; simp
  rw [e, Enc.app, Enc.app, cs_split h, ← Nat.add_zero (i * sz α), put_mid (cs_take_len (by omega)).symm (put_all (by rw [Enc.len, Enc.len]))]

/-! ### Slices handed to a call, and back -/

theorem snc {s n : Nat} (hn : xs.length = n := by first | rfl | simp) (hs : sz α = s := by rfl) : 0 + n * s ≤ (cs o xs).length ∧ (((cs o xs).drop 0).take (n * s)).all Cell.shal = true := by
  subst hs hn
  rw [cs_whole, cs_len]; exact ⟨by omega, cs_shal xs⟩

theorem snr {s n : Nat} (hn : xs.length = n := by first | rfl | simp) (hs : sz α = s := by rfl) : roifyL (((cs o xs).drop 0).take (n * s)) = cs false xs := by subst hs hn; rw [cs_whole, cs_ro]

theorem owc {s n : Nat} (hn : xs.length = n := by first | rfl | simp) (hs : sz α = s := by rfl) : 0 = 0 ∧ (cs o xs).length = n * s ∧ (cs o xs).all Cell.shal = true := by subst hs hn; exact ⟨rfl, cs_len xs, cs_shal xs⟩

theorem exc {s n : Nat} (h : s ≠ 0) (hn : xs.length = n := by first | rfl | simp) (hs : sz α = s := by rfl) : 0 = 0 ∧ (cs o xs).length = n * s ∧ s ≠ 0 ∧ (cs o xs).all Cell.shal = true := by subst hs hn; exact ⟨rfl, cs_len xs, h, cs_shal xs⟩

/-! ### Appends -/

theorem apn {s n : Nat} {c : List Cell} (hc : c = cs o ys) (hn : xs.length = n := by first | rfl | simp) (hs : sz α = s := by rfl) : ((cs o xs).drop 0).take (n * s) ++ c = cs o (xs ++ ys) := by subst hc hs hn; rw [cs_whole, Enc.app]

omit [Enc α] in
theorem apl : xs.length + ys.length = (xs ++ ys).length := by simp

end

/-! ### Bytes, numbers, texts -/

instance : Enc UInt8 where
  sz := 1
  cs _ l := byteC l
  nil _ := rfl
  app _ xs ys := by simp [byteC]
  len _ _ := rfl
  shal _ _ := rfl
  clo _ _ := rfl
  ro _ _ := rfl
  now _ := rfl
  pu _ := rfl

instance : Enc Int where
  sz := 1
  cs _ l := l.map fun n => .prim (.int .i64 n)
  nil _ := rfl
  app _ xs ys := by simp
  len _ _ := rfl
  shal _ _ := rfl
  clo _ _ := rfl
  ro _ _ := rfl
  now _ := rfl
  pu _ := rfl

instance : Enc ByteArray where
  sz := 1
  cs _ l := l.map fun n => .prim (.string n)
  nil _ := rfl
  app _ xs ys := by simp
  len _ _ := rfl
  shal _ _ := rfl
  clo _ _ := rfl
  ro _ _ := rfl
  now _ := rfl
  pu _ := rfl

/-- Slices of slices. -/
instance (α : Type) [Enc α] : Enc (List α) where
  sz := 1
  cs o l := l.map fun x => slE o x
  nil _ := rfl
  app _ xs ys := by simp
  len _ _ := rfl
  shal _ _ := rfl
  clo o x := by
    show (closedL (cs o x) && true) = true
    rw [cs_clo]; rfl
  ro o x := by
    show [Cell.sl false x.length (sz α) (roifyL (cs o x))] = _
    rw [cs_ro]; rfl
  now _ := rfl
  pu x := by
    show (pureL (cs true x) && true) = true
    rw [cs_pure]; rfl

abbrev bl (s : ByteArray) : List UInt8 := s.data.toList

abbrev sb (b : List UInt8) : ByteArray := ⟨b.toArray⟩

theorem bl_len (s : ByteArray) : s.size = (bl s).length := by simp [bl]

theorem strOf_cs {o : Bool} : ∀ {b : List UInt8}, strOf (cs o b) = some b
  | [] => rfl
  | x :: b => by
    show (strOf (cs o b)).map _ = _
    rw [strOf_cs]
    simp

theorem src_str {nd : Nat → Option Node} {s : ByteArray} : srcT nd 1 (.v false [.prim (.string s)]) = some ((bl s).length, cs true (bl s)) := by
  show some (s.size, byteC (bl s)) = _
  rw [bl_len]; rfl

section

variable {o : Bool} {s n m : Nat} {K : List Cell → Nat → Prop}

theorem apE {α : Type} [Enc α] {xs ys : List α} {c : List Cell} (h : K (cs o (xs ++ ys)) (xs ++ ys).length) (hc : c = cs o ys := by rfl) (hm : ys.length = m := by first | rfl | simp) (hn : xs.length = n := by first | rfl | simp) (hs : sz α = s := by rfl) :
    ∃ N', ((cs o xs).drop 0).take (n * s) ++ c = N' ∧ ∃ q, n + m = q ∧ K N' q := by
  subst hm hn
  exact ⟨_, apn hc rfl hs, _, apl, h⟩

theorem apB {xs : List UInt8} {b : UInt8} (h : K (cs o (xs ++ [b])) (xs ++ [b]).length) (hn : xs.length = n := by first | rfl | simp) (hs : sz UInt8 = s := by rfl) :
    ∃ N', ((cs o xs).drop 0).take (n * s) ++ [.prim (.int .u8 (b.toNat : Int))] = N' ∧ ∃ q, n + 1 = q ∧ K N' q := apE (ys := [b]) h rfl rfl hn hs

end

theorem tf (h : true = false) : False := by cases h

theorem ft (h : false = true) : False := by cases h

theorem tvi {a b : Int} (h : a = b) : TV.v false [.prim (.int .i64 a)] = TV.v false [.prim (.int .i64 b)] := by rw [h]

theorem tvr {id off s a b : Nat} (h : a = b) : TV.v false [.ref id off a s] = TV.v false [.ref id off b s] := by rw [h]

/-- An own node moves into a node that leads to it. -/
theorem w_inl {n : Nat} {t h nx tn} (i j : Nat) (A C : List Cell) {c s' : Nat} {cs0 cs1 cs : List Cell} (hij : Nat.beq i j = false) (hi : look none h i = some (true, cs0)) (h1 : cs0 = A ++ [.ref j 0 c s'] ++ C) (h2 : A ++ [.sl true c s' cs] ++ C = cs1)
    (hj : look none h j = some (true, cs)) (hs : cs.all Cell.shal = true) (hl : cs.length = c * s') (hsz : s' ≠ 0) :
    WGh n ⟨t, h, nx, tn⟩ ⟨t, (i, some (true, cs1)) :: (j, none) :: h, nx, tn⟩ := by
  subst h1 h2
  exact w_inline i j (fun e => by subst e; simp at hij) hi hj hs hl hsz

/-- What lies within a node, as a node of its own. -/
theorem w_out {n : Nat} {t h nx tn} (i : Nat) (A C : List Cell) {c s' : Nat} {cs0 cs1 cs : List Cell} (hi : look none h i = some (true, cs0)) (h1 : cs0 = A ++ [.sl true c s' cs] ++ C) (h2 : A ++ [.ref nx 0 c s'] ++ C = cs1) :
    WGh n ⟨t, h, nx, tn⟩ ⟨t, (nx, some (true, cs)) :: (i, some (true, cs1)) :: h, nx + 1, tn⟩ := by
  subst h1 h2
  exact w_drawOut i hi

theorem w_inE {α : Type} [Enc α] {n : Nat} {t h nx tn} (i j : Nat) (A : List Cell) (xs : List α) (C : List Cell) (k s : Nat) {cs0 cs1 : List Cell} (h2 : A ++ [slE true xs] ++ C = cs1) (hij : Nat.beq i j = false := by rfl) (hi : look none h i = some (true, cs0) := by rfl) (hj : look none h j = some (true, cs true xs) := by rfl)
    (h1 : cs0 = A ++ [.ref j 0 k s] ++ C := by first | rfl | simp) (hk : xs.length = k := by first | rfl | simp) (hs : sz α = s := by rfl) (hz : s ≠ 0 := by decide) :
    WGh n ⟨t, h, nx, tn⟩ ⟨t, (i, some (true, cs1)) :: (j, none) :: h, nx, tn⟩ := by
  subst hk hs
  exact w_inl i j A C hij hi h1 h2 hj (cs_shal xs) (cs_len xs) hz

theorem w_outE {α : Type} [Enc α] {n : Nat} {t h nx tn} (i : Nat) (A : List Cell) (xs : List α) (C : List Cell) (s : Nat) {cs0 : List Cell} {cs1 : List Cell} (hi : look none h i = some (true, cs0) := by rfl) (h1 : cs0 = A ++ [slE true xs] ++ C := by first | rfl | simp) (h2 : A ++ [.ref nx 0 xs.length s] ++ C = cs1 := by rfl) (hs : sz α = s := by rfl) :
    WGh n ⟨t, h, nx, tn⟩ ⟨t, (nx, some (true, cs true xs)) :: (i, some (true, cs1)) :: h, nx + 1, tn⟩ := by
  subst hs
  exact w_out i A C hi h1 h2

theorem bstep {n : Nat} {τ τ' : W} {Q : W → Prop} (h : WGh n τ τ') (hq : ∃ τ1, WGh n τ' τ1 ∧ Q τ1) : ∃ τ1, WGh n τ τ1 ∧ Q τ1 := by
  obtain ⟨τ1, h1, h2⟩ := hq
  exact ⟨τ1, h.trans h1, h2⟩

@[simp] theorem sz_u8 : sz UInt8 = 1 := rfl

@[simp] theorem sz_int : sz Int = 1 := rfl

@[simp] theorem sz_str : sz ByteArray = 1 := rfl

@[simp] theorem sz_list {α : Type} [Enc α] : sz (List α) = 1 := rfl

theorem cutA {A C : List Cell} {c : Cell} {p : Nat} (hp : p = A.length) : cut (A ++ [c] ++ C) p 1 = some [c] := by
  rw [← Nat.add_zero p, cut_mid hp (by simp)]; rfl

/-! ### A list in the midst of being turned -/

section

variable {α : Type} [Enc α] {A xs : List α} {i : Nat}

end
end

section
open Go Go.RowKit

open Enc (sz cs)

def nth {α : Type} : List α → Nat → Option α
  | [], _ => none
  | a :: _, 0 => some a
  | _ :: l, n + 1 => nth l n

/-! ### The same, each thing worked out once -/

def pcK : List Cell → List Cell → List (Nat × Nat) → (List (Nat × Nat) → Prop) → Prop
  | c :: l, c' :: l', acc, K => match c, c' with
    | .ref j _ _ _, .ref m _ _ _ => natK m fun m => pcK l l' ((j, m) :: acc) K
    | .ptr j _, .ptr m _ => natK m fun m => pcK l l' ((j, m) :: acc) K
    | _, _ => pcK l l' acc K
  | _, _, acc, K => K acc

theorem pcK_ok : ∀ {l l' : List Cell} {acc : List (Nat × Nat)} {K : List (Nat × Nat) → Prop}, pcK l l' acc K → ∃ ps, K ps
  | [], _, _, _, h => ⟨_, h⟩
  | _ :: _, [], _, _, h => ⟨_, h⟩
  | c :: l, c' :: l', acc, K, h => by
    unfold pcK at h
    split at h
    · rw [natK_eq _ (fun m => pcK l l' _ K)] at h; exact pcK_ok h
    · rw [natK_eq _ (fun m => pcK l l' _ K)] at h; exact pcK_ok h
    · exact pcK_ok h

def ptK (τ : W) : List (Nat × TV) → List (Nat × Nat) → (List (Nat × Nat) → Prop) → Prop
  | [], acc, K => K acc
  | (i, v) :: t, acc, K => match v, τ.tv i with
    | .v _ l, .v _ l' => pcK l l' acc fun acc => ptK τ t acc K
    | _, _ => ptK τ t acc K

theorem ptK_ok {τ : W} : ∀ {t : List (Nat × TV)} {acc : List (Nat × Nat)} {K : List (Nat × Nat) → Prop}, ptK τ t acc K → ∃ ps, K ps
  | [], _, _, h => ⟨_, h⟩
  | (i, v) :: t, acc, K, h => by
    unfold ptK at h
    split at h
    · obtain ⟨ps, h⟩ := pcK_ok h; exact ptK_ok h
    · exact ptK_ok h

def pnK (τ : W) (hs : List (Option Node)) : List Nat → List (Nat × Nat) → (List (Nat × Nat) → Prop) → Prop
  | [], acc, K => K acc
  | j :: fl, acc, K => match nth hs j with
    | some (some (_, cs)) => match τ.nd (look j acc j) with
      | some (_, cs0) => pcK cs cs0 acc fun acc => pnK τ hs fl acc K
      | none => pnK τ hs fl acc K
    | _ => pnK τ hs fl acc K

theorem pnK_ok {τ : W} {hs : List (Option Node)} : ∀ {fl : List Nat} {acc : List (Nat × Nat)} {K : List (Nat × Nat) → Prop}, pnK τ hs fl acc K → ∃ ps, K ps
  | [], _, _, h => ⟨_, h⟩
  | j :: fl, acc, K, h => by
    unfold pnK at h
    split at h
    · split at h
      · obtain ⟨ps, h⟩ := pcK_ok h; exact pnK_ok h
      · exact pnK_ok h
    · exact pnK_ok h

def rhK (ps : List (Nat × Nat)) (fl : List Nat) (n : Nat) : Nat → List (Option Node) → (List (Nat × Bool) → List Nat → Prop) → Prop
  | _, [], K => K [] []
  | j, m :: hs, K => match Nat.blt j n with
    | true => match has fl j with
      | true => rhK ps fl n (j + 1) hs fun r q => K ((j, true) :: r) (j :: q)
      | false => rhK ps fl n (j + 1) hs fun r q => K ((j, false) :: r) (j :: q)
    | false => match m with
      | none => rhK ps fl n (j + 1) hs fun r q => K ((0, false) :: r) (0 :: q)
      | some _ => natK (look j ps j) fun i => match has fl j with
        | true => rhK ps fl n (j + 1) hs fun r q => K ((i, true) :: r) (i :: q)
        | false => rhK ps fl n (j + 1) hs fun r q => K ((i, false) :: r) (i :: q)

theorem rhK_ok {ps : List (Nat × Nat)} {fl : List Nat} {n : Nat} : ∀ {hs : List (Option Node)} {j : Nat} {K : List (Nat × Bool) → List Nat → Prop}, rhK ps fl n j hs K → ∃ r, K r (r.map (·.1))
  | [], _, _, h => ⟨[], h⟩
  | m :: hs, j, K, h => by
    have go : ∀ p : Nat × Bool, rhK ps fl n (j + 1) hs (fun r q => K (p :: r) (p.1 :: q)) → ∃ r, K r (r.map (·.1)) := fun p h => by
      obtain ⟨r, h⟩ := rhK_ok h
      exact ⟨p :: r, h⟩
    unfold rhK at h
    split at h
    · split at h
      · exact go (j, true) h
      · exact go (j, false) h
    · split at h
      · exact go (0, false) h
      · rw [natK_eq (look j ps j)] at h
        split at h
        · exact go (_, true) h
        · exact go (_, false) h

def tsX (τ : W) (q : List Nat) : List (Nat × TV) → Prop
  | [] => True
  | (i, v) :: l => (fv (τ.tv i) fun w => renTV q w = v) ∧ tsX τ q l

def hsX (τ : W) (q : List Nat) : List (Nat × Bool) → List (Option Node) → Prop
  | [], [] => True
  | (i, f) :: r, m :: l => (match m with
    | none => True
    | some (o, cs) => match τ.nd i with
      | some (o', cs0) => match f with
        | true => o' = o ∧ cs0.map (renC q) = cs
        | false => o' = o ∧ closedL cs = true ∧ cs0 = cs
      | none => False) ∧ hsX τ q r l
  | _, _ => False

theorem tsX_ok {τ : W} {q : List Nat} : ∀ {t : List (Nat × TV)}, tsX τ q t → tsOK τ q t
  | [], _ => trivial
  | (_, v) :: _, h => ⟨fv_ok (K := fun w => renTV q w = v) h.1, tsX_ok h.2⟩

theorem hsX_ok {τ : W} {q : List Nat} : ∀ {r : List (Nat × Bool)} {hs : List (Option Node)}, hsX τ q r hs → hsOK τ q r hs
  | [], [], _ => trivial
  | [], _ :: _, h => h
  | _ :: _, [], h => by unfold hsX at h; exact h
  | (i, f) :: r, m :: l, h => by
    obtain ⟨h1, h2⟩ := h
    refine ⟨?_, hsX_ok h2⟩
    cases m with
    | none => trivial
    | some p =>
      obtain ⟨o, cs⟩ := p
      dsimp only at h1 ⊢
      split at h1
      · rename_i o' cs0 hb
        cases f with
        | true => obtain ⟨rfl, h1⟩ := h1; exact ⟨cs0, hb, h1⟩
        | false => obtain ⟨rfl, h3, rfl⟩ := h1; exact ⟨cs0, hb, h3, rfl⟩
      · exact h1.elim

def okR (n : Nat) (r : List (Nat × Bool)) (hs : List (Option Node)) (nx : Nat) : Bool := decide ((r.take n).map (·.1) = List.range n) && (keptN r hs && Nat.beq nx r.length)

/-- A state with fewer temps and nodes, the nodes with new numbers. `fl`: the nodes that lead to others. -/
theorem w_autoX {n : Nat} {τ : W} (fl : List Nat) {t : List (Nat × TV)} {hs : List (Option Node)} {nx tn : Nat}
    (h : ptK τ t [] fun ps => pnK τ hs fl ps fun ps => rhK ps fl n 0 hs fun r q => okR n r hs nx = true ∧ tn = τ.tn ∧ tsX τ q t ∧ hsX τ q r hs) : WGh n τ ⟨t, idx 0 hs, nx, tn⟩ := by
  obtain ⟨ps, h⟩ := ptK_ok h
  obtain ⟨ps, h⟩ := pnK_ok h
  obtain ⟨r, h1, h2, h3, h4⟩ := rhK_ok h
  unfold okR at h1
  rw [Bool.and_eq_true, Bool.and_eq_true] at h1
  exact w_ren r (of_decide_eq_true h1.1) h1.2.1 (Nat.eq_of_beq_eq_true h1.2.2) h2 (tsX_ok h3) (hsX_ok h4)

theorem CWs.app {h : Nat → Option Node} : ∀ {a a' b b' : List Cell}, CWs h a a' → CWs h b b' → CWs h (a ++ b) (a' ++ b')
  | _, _, _, _, .nil, hb => hb
  | _, _, _, _, .cons h1 h2, hb => .cons h1 (CWs.app h2 hb)

/-- A nil slice within a node, as a node of its own without elements. -/
theorem w_nilN {n : Nat} {t h nx tn} (i s' : Nat) (A C : List Cell) {cs0 cs1 : List Cell} (hi : look none h i = some (true, cs0) := by rfl) (h1 : cs0 = A ++ [.nil] ++ C := by first | rfl | simp) (h2 : A ++ [.ref nx 0 0 s'] ++ C = cs1 := by rfl) :
    WGh n ⟨t, h, nx, tn⟩ ⟨t, (nx, some (true, [])) :: (i, some (true, cs1)) :: (i, some (true, A ++ [.sl true 0 s' []] ++ C)) :: h, nx + 1, tn⟩ := by
  subst h1 h2
  refine (w_node i (cs' := A ++ [.sl true 0 s' []] ++ C) hi ?_).trans (w_drawOut i ?_)
  · exact CWs.app (CWs.app (CWs.refl _) (.cons .nilO .nil)) (CWs.refl _)
  · rw [look_cons, if_pos rfl]

/-! ### What comes back shares nothing -/

@[simp] theorem pureV_eq (vals : List (Bool × List Cell)) (outs : List (Option (List Cell))) : pureV vals outs = (vals.all (fun p => pureL p.2) && outs.all fun o => match o with | some l => pureL l | none => true) := rfl

@[simp] theorem pureL_nil : pureL [] = true := rfl

@[simp] theorem pureL_cons (c : Cell) (l : List Cell) : pureL (c :: l) = (c.pure && pureL l) := rfl

@[simp] theorem pure_prim (v : Value) : Cell.pure (.prim v) = true := rfl

@[simp] theorem pure_nil : Cell.pure .nil = true := rfl

@[simp] theorem pure_own (n s : Nat) (l : List Cell) : Cell.pure (.sl true n s l) = pureL l := rfl

@[simp] theorem pure_ro (n s : Nat) (l : List Cell) : Cell.pure (.sl false n s l) = l.isEmpty := rfl

theorem w_frz {α : Type} [Enc α] {n : Nat} {t h nx tn} (i : Nat) (xs : List α) (hi : look none h i = some (true, cs true xs) := by rfl) : WGh n ⟨t, h, nx, tn⟩ ⟨t, (i, some (false, cs false xs)) :: h, nx, tn⟩ :=
  w_freeze i hi (cs_ro xs)

theorem rdI {α : Type} [Enc α] {xs : List α} {o : Bool} {j : Int} {i s : Nat} (hj : j = i) (h : i < xs.length) (hs : sz α = s := by rfl) : ((cs o xs).drop (j.toNat * s)).take s = cs o [xs[i]] := by
  subst hj; exact rd h hs
end

section
open Go Go.RowKit Go.IntWalk

open Enc (sz cs)

theorem k0 {n : Nat} {τ : W} {Q : W → Prop} (h : Q τ) : ∃ τ1, WGh n τ τ1 ∧ Q τ1 := ⟨τ, .refl, h⟩

theorem kA {p q A B : Prop} (h : q → False) (k : p → A) : (p → A) ∧ (q → B) := ⟨k, fun x => (h x).elim⟩

theorem kB {p q A B : Prop} (h : p → False) (k : q → B) : (p → A) ∧ (q → B) := ⟨fun x => (h x).elim, k⟩

theorem kC {p q A B : Prop} (a : p → A) (b : q → B) : (p → A) ∧ (q → B) := ⟨a, b⟩

theorem kr {α : Sort _} {a : α} {K : α → Prop} (k : K a) : ∃ c, a = c ∧ K c := ⟨a, rfl, k⟩

theorem ke {α : Sort _} {a b : α} {K : α → Prop} (h : a = b) (k : K b) : ∃ c, a = c ∧ K c := ⟨b, h, k⟩

theorem ko {α : Type} {a : Option α} {b : α} {K : α → Prop} (h : a = some b) (k : K b) : ∃ c, a = some c ∧ K c := ⟨b, h, k⟩

theorem kb {α : Sort _} {p : Prop} {a b : α} {K : α → Prop} (hp : p) (h : a = b) (k : K b) : p ∧ ∃ c, a = c ∧ K c := ⟨hp, b, h, k⟩

theorem kl {P : Program} {X : FuncId → List Arg → List (Bool × List Cell) → List (Option (List Cell)) → Prop} {f : FuncId} {a : List Arg} {vals : List (Bool × List Cell)} {outs : List (Option (List Cell))} {Q : List (Bool × List Cell) → List (Option (List Cell)) → Prop} (h : D P X (.call f a vals outs)) (k : Q vals outs) : ∃ b vals outs, a = b ∧ D P X (.call f b vals outs) ∧ Q vals outs :=
  ⟨a, vals, outs, rfl, h, k⟩

theorem kd {a b c : Bool} {Q : Prop} (ha : a = true) (hb : b = true) (hc : c = true) (k : Q) : Drw a b c ∧ Q := ⟨⟨ha, hb, hc⟩, k⟩

theorem km {n q : Nat} {b : Nat} {z : List Cell} {K : Nat → Nat → List Cell → Prop} (hn : (n : Int) = (q : Int)) (h : n ≤ 100000000) (k : K n z.length (zerosT z n)) (hb : Nat.ble b 1000 = true := by rfl) :
    ((n : Int) = (q : Int) ∧ 0 ≤ (n : Int) ∧ (n : Int) ≤ 140737488355328 ∧ (n : Int).toNat * b ≤ bigB) ∧ ∃ m s N, (n : Int).toNat = m ∧ z.length = s ∧ zerosT z m = N ∧ K m s N :=
  ⟨⟨hn, by omega, by omega, by
    have h2 := Nat.le_of_ble_eq_true hb
    have := Nat.mul_le_mul h h2
    unfold bigB; rw [Int.toNat_natCast]; omega⟩, _, _, _, Int.toNat_natCast _, rfl, rfl, k⟩

/-! ### What leads to nothing, found by its form -/

class Clo (l : List Cell) : Prop where
  h : closedL l = true

theorem clo_i {l : List Cell} [c : Clo l] : closedL l = true := c.h

instance : Clo [] := ⟨rfl⟩

instance {v : Value} {l : List Cell} [c : Clo l] : Clo (.prim v :: l) := ⟨c.h⟩

instance {l : List Cell} [c : Clo l] : Clo (.nil :: l) := ⟨c.h⟩

instance {v : Value} {l : List Cell} [c : Clo l] : Clo (ofV v :: l) := ⟨by
  unfold ofV
  split <;> exact c.h⟩

instance {α : Type} [Enc α] {o : Bool} {n s : Nat} {xs : List α} {l : List Cell} [c : Clo l] : Clo (.sl o n s (cs o xs) :: l) := ⟨by
  show (closedL (cs o xs) && closedL l) = true
  rw [cs_clo, c.h]; rfl⟩

instance {o : Bool} {n s : Nat} {l : List Cell} [c : Clo l] : Clo (.sl o n s [] :: l) := ⟨c.h⟩

instance {α : Type} [Enc α] {o : Bool} {xs : List α} : Clo (cs o xs) := ⟨cs_clo xs⟩

instance {a b : List Cell} [c : Clo a] [d : Clo b] : Clo (a ++ b) := ⟨by rw [closedL_append, c.h, d.h]; rfl⟩

theorem zeros_clo0 {z : List Cell} (h : closedL z = true) : ∀ {n : Nat}, closedL (zerosT z n) = true
  | 0 => rfl
  | n + 1 => by
    have e : zerosT z (n + 1) = z ++ zerosT z n := by simp [zerosT, List.replicate_succ]
    rw [e, closedL_append, h, zeros_clo0 h]; rfl

instance {z : List Cell} {n : Nat} [c : Clo z] : Clo (zerosT z n) := ⟨zeros_clo0 c.h⟩
end

section
open Go Go.RowKit

open Enc (sz cs)

abbrev i6 (n : Int) : Cell := .prim (.int .i64 n)

abbrev b1 (b : Bool) : Cell := .prim (.bool b)

abbrev s1 (s : ByteArray) : Cell := .prim (.string s)

structure Fau where
  pos : Int
  keep : Int
  cut : Int

structure Wri where
  n : Int
  b : List UInt8

structure Dsk where
  secs : List (List UInt8)
  cache : List Wri
  ops : Int
  faults : List Fau
  down : Bool

structure Met where
  gen : Int
  root : Int

structure Nod where
  leaf : Bool
  keys : List ByteArray
  vals : List ByteArray
  kids : List Int

structure Fre where
  n : Int
  x : Nod

structure Txn where
  d : Dsk
  m : Met
  root : Int
  new : List Fre

structure Pai where
  key : ByteArray
  val : ByteArray

abbrev fauC (f : Fau) : List Cell := [i6 f.pos, i6 f.keep, i6 f.cut]

abbrev wriC (o : Bool) (w : Wri) : List Cell := [i6 w.n, slE o w.b]

abbrev nodC (o : Bool) (x : Nod) : List Cell := [b1 x.leaf, slE o x.keys, slE o x.vals, slE o x.kids]

abbrev freC (o : Bool) (f : Fre) : List Cell := i6 f.n :: nodC o f.x

abbrev paiC (p : Pai) : List Cell := [s1 p.key, s1 p.val]

instance : Enc Fau where
  sz := 3
  cs _ l := l.flatMap fauC
  nil _ := rfl
  app _ xs ys := by simp
  len _ _ := rfl
  shal _ _ := rfl
  clo _ _ := rfl
  ro _ _ := rfl
  now _ := rfl
  pu _ := rfl

instance : Enc Pai where
  sz := 2
  cs _ l := l.flatMap paiC
  nil _ := rfl
  app _ xs ys := by simp
  len _ _ := rfl
  shal _ _ := rfl
  clo _ _ := rfl
  ro _ _ := rfl
  now _ := rfl
  pu _ := rfl

instance : Enc Wri where
  sz := 2
  cs o l := l.flatMap (wriC o)
  nil _ := rfl
  app _ xs ys := by simp
  len _ _ := rfl
  shal _ _ := rfl
  clo o x := by
    show (closedL (cs o x.b) && true) = true
    rw [cs_clo]; rfl
  ro o x := by
    show [i6 x.n, Cell.sl false x.b.length 1 (roifyL (cs o x.b))] = _
    rw [cs_ro]; rfl
  now _ := rfl
  pu x := by
    show (pureL (cs true x.b) && true) = true
    rw [cs_pure]; rfl

instance : Enc Fre where
  sz := 5
  cs o l := l.flatMap (freC o)
  nil _ := rfl
  app _ xs ys := by simp
  len _ _ := rfl
  shal _ _ := rfl
  clo o x := by
    show (closedL (cs o x.x.keys) && (closedL (cs o x.x.vals) && (closedL (cs o x.x.kids) && true))) = true
    rw [cs_clo, cs_clo, cs_clo]; rfl
  ro o x := by
    show [i6 x.n, b1 x.x.leaf, Cell.sl false x.x.keys.length 1 (roifyL (cs o x.x.keys)), Cell.sl false x.x.vals.length 1 (roifyL (cs o x.x.vals)), Cell.sl false x.x.kids.length 1 (roifyL (cs o x.x.kids))] = _
    rw [cs_ro, cs_ro, cs_ro]; rfl
  now _ := rfl
  pu x := by
    show (pureL (cs true x.x.keys) && (pureL (cs true x.x.vals) && (pureL (cs true x.x.kids) && true))) = true
    rw [cs_pure, cs_pure, cs_pure]; rfl

@[simp] theorem sz_fau : sz Fau = 3 := rfl

@[simp] theorem sz_wri : sz Wri = 2 := rfl

@[simp] theorem sz_fre : sz Fre = 5 := rfl

@[simp] theorem sz_pai : sz Pai = 2 := rfl
end

section
open Go Go.RowKit Go.IntWalk

open Enc (sz cs)

theorem i64_suc {x : Nat} (h : x < 9223372036854775807) : IntKind.i64.wrap ((x : Int) + 1) = ((x + 1 : Nat) : Int) := (i64_in _ (by omega)).trans (by omega)

theorem u8n (n : Nat) : IntKind.wrap .u8 (n : Int) = ((UInt8.ofNat n).toNat : Int) := by
  rw [IntKind.wrap_u8, UInt8.toNat_ofNat']
  omega

section

variable {α : Type}

/-- Each value marked, one behind the other; `c`: how many marks a value takes. -/
def mkL (c : α → Nat) (f : Nat → α → α) : Nat → List α → List α
  | _, [] => []
  | a, x :: xs => f a x :: mkL c f (a + c x) xs

def cnt (c : α → Nat) : List α → Nat
  | [] => 0
  | x :: xs => c x + cnt c xs

variable {c : α → Nat} {f : Nat → α → α}

@[simp] theorem mkL_len : ∀ {xs : List α} {a : Nat}, (mkL c f a xs).length = xs.length
  | [], _ => rfl
  | x :: xs, a => by simp [mkL, mkL_len (xs := xs)]

theorem cnt_app : ∀ {xs ys : List α}, cnt c (xs ++ ys) = cnt c xs + cnt c ys
  | [], ys => by simp [cnt]
  | x :: xs, ys => by simp [cnt, cnt_app (xs := xs), Nat.add_assoc]

theorem take_one {xs : List α} {i : Nat} (h : i < xs.length) : xs.take (i + 1) = xs.take i ++ [xs[i]] := (List.take_succ_eq_append_getElem h)

theorem cnt_take {xs : List α} {i : Nat} (h : i < xs.length) : cnt c (xs.take (i + 1)) = cnt c (xs.take i) + c xs[i] := by
  rw [take_one h, cnt_app]; simp [cnt]

theorem cnt_le {xs : List α} {i : Nat} : cnt c (xs.take i) ≤ cnt c xs := by
  conv => rhs; rw [← List.take_append_drop i xs, cnt_app]
  omega

end

theorem zeros_succ {z : List Cell} {n : Nat} : zerosT z (n + 1) = z ++ zerosT z n := by simp [zerosT, List.replicate_succ]

@[simp] theorem zeros_clo {z : List Cell} (h : closedL z = true) : ∀ {n : Nat}, closedL (zerosT z n) = true
  | 0 => rfl
  | n + 1 => by rw [zeros_succ, closedL_append, h, zeros_clo h]; rfl

theorem fil {α : Type} [Enc α] {xs : List α} {i : Nat} {o : Bool} {c C : List Cell} (h : i < xs.length) (hc : c = cs o [xs[i]]) : cs o (xs.take i) ++ c ++ C = cs o (xs.take (i + 1)) ++ C := by
  subst hc; rw [take_one h, Enc.app]

/-! ### Marks and sizes of the program's data -/

theorem sb_len (a : List UInt8) : (sb a).size = a.length := by simp [ByteArray.size]

abbrev mI (a : Nat) (xs : List Int) : List Int := mkL (fun _ => 1) (fun a _ => (a : Int)) a xs

/-- Sizes. -/
abbrev zBS (xs : List (List UInt8)) : Nat := xs.length + cnt List.length xs

abbrev zWS (xs : List Wri) : Nat := xs.length + cnt (fun w : Wri => w.b.length) xs

abbrev zSS (xs : List ByteArray) : Nat := xs.length + cnt ByteArray.size xs

abbrev zN (x : Nod) : Nat := zSS x.keys + zSS x.vals + x.kids.length

abbrev zFrS (xs : List Fre) : Nat := xs.length + cnt (fun f : Fre => zN f.x) xs

abbrev zD (d : Dsk) : Nat := zBS d.secs + zWS d.cache + d.faults.length

abbrev zT (t : Txn) : Nat := zD t.d + zFrS t.new

/-! ### Bounds -/

structure OkD (d : Dsk) : Prop where
  secs : d.secs.length ≤ 10000000
  sec : ∀ x ∈ d.secs, x.length ≤ 10000000
  cache : d.cache.length ≤ 10000000
  wri : ∀ x ∈ d.cache, x.b.length ≤ 10000000
  faults : d.faults.length ≤ 10000000

structure OkN (x : Nod) : Prop where
  keys : x.keys.length ≤ 10000000
  vals : x.vals.length ≤ 10000000
  kids : x.kids.length ≤ 10000000

structure OkT (t : Txn) : Prop where
  d : OkD t.d
  new : t.new.length ≤ 10000000
  nod : ∀ f ∈ t.new, OkN f.x

theorem cnt_mem {α : Type} {c : α → Nat} : ∀ {xs : List α} {x : α}, x ∈ xs → c x ≤ cnt c xs
  | y :: xs, x, h => by
    rcases List.mem_cons.1 h with rfl | h
    · simp [cnt]
    · have := cnt_mem (c := c) h
      simp [cnt]; omega
end

section
open Go Go.RowKit Go.IntWalk

open Enc (sz cs)

def clampI (n : Int) : Int := max 0 (min n 1000000)

/-- A number as it is written. -/
def clN (n : Int) : Nat := (clampI n).toNat

theorem clN_le (n : Int) : clN n ≤ 1000000 := by unfold clN clampI; omega

theorem clN_nat {n : Nat} (h : n ≤ 1000000) : clN n = n := by unfold clN clampI; omega

theorem clN_int {n : Int} (h : 0 ≤ n ∧ n ≤ 1000000) : ((clN n : Nat) : Int) = n := by unfold clN clampI; omega

theorem cl_eq (n : Int) : clampI n = (clN n : Int) := by unfold clN clampI; omega

def uenc (n : Nat) : List UInt8 := if n ≤ 127 then [UInt8.ofNat n] else UInt8.ofNat (n % 128 + 128) :: uenc (n / 128)

theorem uenc_small {n : Nat} (h : n ≤ 127) : uenc n = [UInt8.ofNat n] := by rw [uenc, if_pos h]

theorem uenc_big {n : Nat} (h : ¬ n ≤ 127) : uenc n = UInt8.ofNat (n % 128 + 128) :: uenc (n / 128) := by rw [uenc, if_neg h]

theorem uenc_len {n : Nat} (h : n ≤ 1000000) : (uenc n).length ≤ 3 := by
  rw [uenc]
  split
  · simp
  · rw [uenc]
    split
    · simp
    · rw [uenc, if_pos (by omega)]; simp

theorem uenc_pos (n : Nat) : 0 < (uenc n).length := by
  rw [uenc]; split <;> simp

/-- A number behind bytes. -/
abbrev ptU (b : List UInt8) (n : Int) : List UInt8 := b ++ uenc (clN n)

/-- A text behind bytes. -/
abbrev ptT (b s : List UInt8) : List UInt8 := b ++ uenc (clN s.length) ++ s

/-! ### The sum -/

def stepN (x : Nat) : Nat := if x % 2 = 1 then (x / 2) ^^^ 2197175160 else x / 2

def stepsN : Nat → Nat → Nat
  | 0, x => x
  | k + 1, x => stepN (stepsN k x)

def roundN (x : Nat) (b : UInt8) : Nat := stepsN 8 (x ^^^ b.toNat)

def crcX (bs : List UInt8) : Nat := bs.foldl roundN 4294967295

def crcN (bs : List UInt8) : Nat := crcX bs ^^^ 4294967295

theorem xor_lt32 {a b : Nat} (ha : a < 4294967296) (hb : b < 4294967296) : a ^^^ b < 4294967296 := Nat.xor_lt_two_pow (n := 32) ha hb

theorem stepN_lt {x : Nat} (h : x < 4294967296) : stepN x < 4294967296 := by
  unfold stepN
  split
  · exact xor_lt32 (by omega) (by omega)
  · omega

theorem stepsN_lt {x : Nat} (h : x < 4294967296) : ∀ k, stepsN k x < 4294967296
  | 0 => h
  | k + 1 => stepN_lt (stepsN_lt h k)

theorem u8_lt (b : UInt8) : b.toNat < 256 := b.toNat_lt

theorem roundN_lt {x : Nat} (h : x < 4294967296) (b : UInt8) : roundN x b < 4294967296 := stepsN_lt (xor_lt32 h (by have := u8_lt b; omega)) 8

theorem foldl_lt : ∀ (bs : List UInt8) {x : Nat}, x < 4294967296 → bs.foldl roundN x < 4294967296
  | [], _, h => h
  | b :: bs, _, h => foldl_lt bs (roundN_lt h b)

theorem crcX_lt (bs : List UInt8) : crcX bs < 4294967296 := foldl_lt bs (by omega)

theorem crcN_lt (bs : List UInt8) : crcN bs < 4294967296 := xor_lt32 (crcX_lt bs) (by omega)

theorem crcX_take (bs : List UInt8) {i : Nat} (h : i < bs.length) : crcX (bs.take (i + 1)) = roundN (crcX (bs.take i)) bs[i] := by
  unfold crcX
  rw [List.take_succ_eq_append_getElem h, List.foldl_append]
  rfl

def be4 (n : Nat) : List UInt8 := [UInt8.ofNat (n / 16777216), UInt8.ofNat (n / 65536), UInt8.ofNat (n / 256), UInt8.ofNat n]

/-- Bytes with their sum behind them. -/
def ptS (b : List UInt8) : List UInt8 := b ++ be4 (crcN b)

/-! ### Bits -/

theorem ofInt_nat (m : Nat) : BitVec.ofInt 64 (m : Int) = BitVec.ofNat 64 m := by simp

theorem ofInt_nat32 (m : Nat) : BitVec.ofInt 32 (m : Int) = BitVec.ofNat 32 m := by simp

theorem and64 {m : Nat} (k : Nat) (hk : k ≤ 63) (h : m < 9223372036854775808) : IntKind.i64.wrap ((BitVec.ofInt IntKind.i64.bits (m : Int) &&& BitVec.ofInt IntKind.i64.bits ((2 ^ k - 1 : Nat) : Int)).toNat : Int) = ((m % 2 ^ k : Nat) : Int) := by
  have h2 : 2 ^ k ≤ 2 ^ 63 := Nat.pow_le_pow_right (by decide) hk
  have h3 : 0 < 2 ^ k := Nat.two_pow_pos k
  have e : (BitVec.ofInt IntKind.i64.bits (m : Int) &&& BitVec.ofInt IntKind.i64.bits ((2 ^ k - 1 : Nat) : Int)).toNat = m % 2 ^ k := by
    show (BitVec.ofInt 64 (m : Int) &&& BitVec.ofInt 64 ((2 ^ k - 1 : Nat) : Int)).toNat = m % 2 ^ k
    rw [ofInt_nat, ofInt_nat, BitVec.toNat_and, BitVec.toNat_ofNat, BitVec.toNat_ofNat, Nat.mod_eq_of_lt (by omega), Nat.mod_eq_of_lt (show 2 ^ k - 1 < 2 ^ 64 by omega)]
    exact Nat.and_two_pow_sub_one_eq_mod m k
  have : m % 2 ^ k ≤ m := Nat.mod_le _ _
  rw [e]; exact i64_in _ (by omega)

theorem and127 {m : Nat} (h : m < 9223372036854775808) : IntKind.i64.wrap ((BitVec.ofInt IntKind.i64.bits (m : Int) &&& BitVec.ofInt IntKind.i64.bits 127).toNat : Int) = ((m % 128 : Nat) : Int) := and64 7 (by decide) h

theorem and1 {m : Nat} (h : m < 9223372036854775808) : IntKind.i64.wrap ((BitVec.ofInt IntKind.i64.bits (m : Int) &&& BitVec.ofInt IntKind.i64.bits 1).toNat : Int) = ((m % 2 : Nat) : Int) := and64 1 (by decide) h

theorem or128 {m : Nat} (h : m < 128) : IntKind.i64.wrap ((BitVec.ofInt IntKind.i64.bits (m : Int) ||| BitVec.ofInt IntKind.i64.bits 128).toNat : Int) = ((m + 128 : Nat) : Int) := by
  have e : (BitVec.ofInt IntKind.i64.bits (m : Int) ||| BitVec.ofInt IntKind.i64.bits 128).toNat = m + 128 := by
    show (BitVec.ofInt 64 (m : Int) ||| BitVec.ofInt 64 ((128 : Nat) : Int)).toNat = m + 128
    rw [ofInt_nat, ofInt_nat, BitVec.toNat_or, BitVec.toNat_ofNat, BitVec.toNat_ofNat, Nat.mod_eq_of_lt (by omega)]
    have := Nat.two_pow_add_eq_or_of_lt (i := 7) (b := m) (by omega) 1
    rw [Nat.or_comm]
    simp at this ⊢; omega
  rw [e]; exact i64_in _ (by omega)

theorem xor64 {a b : Nat} (ha : a < 4294967296) (hb : b < 4294967296) : IntKind.i64.wrap ((BitVec.ofInt IntKind.i64.bits (a : Int) ^^^ BitVec.ofInt IntKind.i64.bits (b : Int)).toNat : Int) = ((a ^^^ b : Nat) : Int) := by
  have e : (BitVec.ofInt IntKind.i64.bits (a : Int) ^^^ BitVec.ofInt IntKind.i64.bits (b : Int)).toNat = a ^^^ b := by
    show (BitVec.ofInt 64 (a : Int) ^^^ BitVec.ofInt 64 (b : Int)).toNat = a ^^^ b
    rw [ofInt_nat, ofInt_nat, BitVec.toNat_xor, BitVec.toNat_ofNat, BitVec.toNat_ofNat, Nat.mod_eq_of_lt (by omega), Nat.mod_eq_of_lt (by omega)]
  have := xor_lt32 ha hb
  rw [e]; exact i64_in _ (by omega)

theorem u32_in {n : Nat} (h : n < 4294967296) : IntKind.u32.wrap (n : Int) = n := by rw [IntKind.wrap_u32]; omega

theorem xor32 {a b : Nat} (ha : a < 4294967296) (hb : b < 4294967296) : IntKind.u32.wrap ((BitVec.ofInt IntKind.u32.bits (a : Int) ^^^ BitVec.ofInt IntKind.u32.bits (b : Int)).toNat : Int) = ((a ^^^ b : Nat) : Int) := by
  have e : (BitVec.ofInt IntKind.u32.bits (a : Int) ^^^ BitVec.ofInt IntKind.u32.bits (b : Int)).toNat = a ^^^ b := by
    show (BitVec.ofInt 32 (a : Int) ^^^ BitVec.ofInt 32 (b : Int)).toNat = a ^^^ b
    rw [ofInt_nat32, ofInt_nat32, BitVec.toNat_xor, BitVec.toNat_ofNat, BitVec.toNat_ofNat, Nat.mod_eq_of_lt (by omega), Nat.mod_eq_of_lt (by omega)]
  rw [e]; exact u32_in (xor_lt32 ha hb)

theorem and32_1 {a : Nat} (ha : a < 4294967296) : IntKind.u32.wrap ((BitVec.ofInt IntKind.u32.bits (a : Int) &&& BitVec.ofInt IntKind.u32.bits 1).toNat : Int) = ((a % 2 : Nat) : Int) := by
  have e : (BitVec.ofInt IntKind.u32.bits (a : Int) &&& BitVec.ofInt IntKind.u32.bits 1).toNat = a % 2 := by
    show (BitVec.ofInt 32 (a : Int) &&& BitVec.ofInt 32 ((1 : Nat) : Int)).toNat = a % 2
    rw [ofInt_nat32, ofInt_nat32, BitVec.toNat_and, BitVec.toNat_ofNat, BitVec.toNat_ofNat, Nat.mod_eq_of_lt (by omega)]
    exact Nat.and_two_pow_sub_one_eq_mod a 1
  rw [e]; exact u32_in (by omega)

theorem shrN (a k : Nat) : (a : Int).fdiv (2 ^ k) = ((a / 2 ^ k : Nat) : Int) := by
  rw [Int.fdiv_eq_ediv_of_nonneg _ (by exact_mod_cast (Nat.zero_le (2 ^ k)))]
  exact_mod_cast rfl

theorem shr1 (a : Nat) : (a : Int).fdiv (2 ^ 1) = ((a / 2 : Nat) : Int) := shrN a 1

theorem i64_of {n : Nat} (h : n ≤ 9223372036854775807) : IntKind.i64.wrap (n : Int) = n := i64_in _ (by omega)

theorem quo128 (m : Nat) (h : m ≤ 9223372036854775807) : IntKind.i64.wrap ((m : Int).tdiv 128) = ((m / 128 : Nat) : Int) := i64_quo m 128 (by omega)

/-! ### Room -/

theorem bg {n m b : Nat} (h : n + m ≤ 100000000) (hb : Nat.ble b 1000 = true := by rfl) : (n + m) * b ≤ bigB := by
  have h2 := Nat.le_of_ble_eq_true hb
  have := Nat.mul_le_mul h h2
  unfold bigB; omega

theorem bg1 {n b : Nat} (h : n ≤ 100000000) (hb : Nat.ble b 1000 = true := by rfl) : n * b ≤ bigB := bg (m := 0) h hb

theorem bgb {n : Nat} (h : n ≤ 100000000) : n ≤ bigB := by unfold bigB; omega

theorem ape {N : List Cell} {s : Nat} : (([] : List Cell).drop 0).take (0 * s) ++ N = N := by simp
end

section
open Go Go.RowKit Go.IntWalk

open Enc (sz cs)

theorem reps_list {α : Type} [Enc α] {R : List Cell → Prop} {Q : α → Prop} (hR : ∀ l, R l → ∃ x : α, l = cs false [x] ∧ Q x) : ∀ {n : Nat} {l : List Cell}, Reps R n l → ∃ xs : List α, xs.length = n ∧ l = cs false xs ∧ ∀ x ∈ xs, Q x
  | _, _, .nil => ⟨[], rfl, by rw [Enc.nil], fun x hx => by cases hx⟩
  | _, _, .cons (l := l) h1 h2 => by
    obtain ⟨x, rfl, hq⟩ := hR _ h1
    obtain ⟨xs, e1, rfl, h3⟩ := reps_list hR h2
    refine ⟨x :: xs, by simp [e1], (cs_cons x xs).symm, fun y hy => ?_⟩
    rcases List.mem_cons.1 hy with rfl | hy
    · exact hq
    · exact h3 y hy

section

variable {P : Program} {d : Nat} {t e : TypeId} {l : List Cell}

theorem fit_sl {α : Type} [Enc α] {Q : α → Prop} (h : fitN P (d + 1) t l) (hu : P.underlying t = some (.slice e)) (hc : P.cellsOf e = sz α) (hR : ∀ l, fitN P d e l → ∃ x : α, l = cs false [x] ∧ Q x) :
    ∃ xs : List α, l = [slE false xs] ∧ xs.length * P.bytesOf e ≤ reachBytes ∧ ∀ x ∈ xs, Q x := by
  unfold fitN at h
  rw [hu] at h
  obtain ⟨n, l', rfl, h1, h2⟩ := h
  obtain ⟨xs, rfl, rfl, h3⟩ := reps_list hR h2
  exact ⟨xs, by rw [hc], h1, h3⟩

theorem fit_u8 (h : fitN P (d + 1) t l) (hu : P.underlying t = some (.int .u8)) : ∃ n : UInt8, l = cs false [n] ∧ True := by
  unfold fitN at h
  rw [hu] at h
  obtain ⟨n, rfl, h⟩ := h
  refine ⟨UInt8.ofNat n.toNat, ?_, trivial⟩
  have : 0 ≤ n ∧ n < 256 := by
    have h2 : (decide (IntKind.u8.min ≤ n) && decide (n ≤ IntKind.u8.max)) = true := h
    rw [Bool.and_eq_true, decide_eq_true_eq, decide_eq_true_eq] at h2
    have h3 : IntKind.u8.min = 0 := rfl
    have h4 : IntKind.u8.max = 255 := rfl
    omega
  show _ = [Cell.prim (.int .u8 ((UInt8.ofNat n.toNat).toNat : Int))]
  rw [UInt8.toNat_ofNat', show ((n.toNat % 2 ^ 8 : Nat) : Int) = n by omega]

theorem fit_bytes (h : fitN P (d + 2) t l) (hu : P.underlying t = some (.slice e)) (he : P.underlying e = some (.int .u8)) (hc : P.cellsOf e = 1) (hb : P.bytesOf e = 1) : ∃ b : List UInt8, l = [slE false b] ∧ b.length ≤ reachBytes := by
  obtain ⟨xs, h1, h2, _⟩ := fit_sl (α := UInt8) (Q := fun _ => True) h hu hc (fun l hl => fit_u8 hl he)
  exact ⟨xs, h1, by rw [hb] at h2; omega⟩

end
end

end Go.Proofs.YtddikflnjloagaaGreatDoor
