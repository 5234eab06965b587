/- The T reading of code: what runs to what. -/
import Derived.Test.YtacfohamlkbpjaaTl
import Derived.Orders
import Derived.LoopN
import Derived.Tactics
namespace Go.Proofs.Ytacfohamlkbpjaa
open Go Go.RowKit

inductive Out where
  | norm
  | exit (n : Nat)
  | ret
  deriving DecidableEq, Inhabited

/-- What a call is handed: a value that it only reads; or a node of its own (`p`: by a pointer to it; else a slice of `n` elements of `s` cells); `ex`: behind the arguments, a node that a struct among them leads to. -/
inductive Arg where
  | val (b : Bool) (l : List Cell)
  | own (p : Bool) (n s : Nat) (l : List Cell)
  | ex (l : List Cell)
  deriving Inhabited

def setT (t : List TV) (d : Option Nat) (v : TV) : List TV :=
  match d with
  | some d => t.set d v
  | none => t

def setH (h : List (Option Node)) (i : Nat) (n : Option Node) : List (Option Node) :=
  if i < h.length then h.set i n else h ++ List.replicate (i - h.length) none ++ [n]

abbrev Upds := List (Nat × Option Node)

def St.app (σ : St) (d : Option Nat) (r : TV) (l : Upds) : St := ⟨setT σ.t d r, l.foldl (fun h p => setH h p.1 p.2) σ.h⟩

/-- Is an operation behind a guard to be done? -/
def guardT (ops : Array Oper) (t : List TV) (o : Oper) : Option Bool :=
  match o.guard with
  | none => some true
  | some (j, want) => match (ops[j]?).bind (·.dst) with
    | some d => match t.getD d .undef with
      | .v false [.prim (.bool b)] => some (b == want)
      | .tup [] => some false
      | _ => none
    | none => none

/-- What a callee sees of the cells of a value that it only reads; which nodes it so sees. -/
def snapC (h : Nat → Option Node) : Cell → Option (Cell × List Nat)
  | .prim v => some (.prim v, [])
  | .nil => some (.nil, [])
  | .sl false n s l => some (.sl false n s l, [])
  | .sl true 0 s [] => some (.sl false 0 s [], [])
  | .ref id off n s => match h id with
    | some (o, cs) => if off + n * s ≤ cs.length ∧ ((cs.drop off).take (n * s)).all Cell.shal = true then
        some (.sl false n s (roifyL ((cs.drop off).take (n * s))), if o then [id] else []) else none
    | none => none
  | _ => none

/-- `zs`: the element sizes of the nil slices within, as they come. -/
def snapL (h : Nat → Option Node) : List Nat → List Cell → Option (List Cell × List Nat)
  | _, [] => some ([], [])
  | s :: zs, .nil :: cs => match snapL h zs cs with
    | some (cs', j) => some (.sl false 0 s [] :: cs', j)
    | none => none
  | zs, c :: cs => match snapC h c, snapL h zs cs with
    | some (c', i), some (cs', j) => some (c' :: cs', i ++ j)
    | _, _ => none

/-- How an argument is handed: to be read (with the element sizes of nil slices within), or to be written (nil: as a new slice without elements, of this element size). -/
inductive Mode where
  | val (zs : List Nat)
  | own (s : Nat)
  | str
  deriving Inhabited

/-- One argument: as it is handed; the nodes that are seen; the node that is handed on. -/
def argT (h : Nat → Option Node) : Mode → TV → Option (Arg × List Nat × Option Nat)
  | .val zs, .v b l => match snapL h zs l with
    | some (l', i) => some (.val b l', i, none)
    | none => none
  | .own s, .v false [.nil] => some (.own false 0 s [], [], none)
  | .own _, .v false [.ptr id off] => match h id with
    | some (true, cs) => if off = 0 ∧ cs.all Cell.shal = true then some (.own true 0 0 cs, [], some id) else none
    | _ => none
  | .own _, .v false [.ref id off n s] => match h id with
    | some (true, cs) => if off = 0 ∧ cs.length = n * s ∧ cs.all Cell.shal = true then some (.own false n s cs, [], some id) else none
    | _ => none
  | _, _ => none

/-- A struct that is handed on with the slices within: the callee has their nodes from `k` on. -/
def giveL (h : Nat → Option Node) : Nat → List Cell → Option (List Cell × List (Nat × List Cell))
  | _, [] => some ([], [])
  | k, .prim v :: l => match giveL h k l with
    | some (l', e) => some (.prim v :: l', e)
    | none => none
  | k, .nil :: l => match giveL h k l with
    | some (l', e) => some (.nil :: l', e)
    | none => none
  | k, .sl false n s x :: l => match giveL h k l with
    | some (l', e) => some (.sl false n s x :: l', e)
    | none => none
  | k, .ref id off n s :: l => match h id with
    | some (true, cs) => if off = 0 ∧ cs.length = n * s ∧ cs.all Cell.shal = true then
        match giveL h (k + 1) l with
        | some (l', e) => some (.ref k 0 n s :: l', (id, cs) :: e)
        | none => none
      else none
    | _ => none
  | _, _ => none

def argsG (h : Nat → Option Node) : Nat → List Mode → List TV → Option (List Arg × List Nat × List (Option Nat) × List (Nat × List Cell))
  | _, [], [] => some ([], [], [], [])
  | k, .str :: ms, .v b l :: xs => match giveL h k l with
    | some (l', e) => match argsG h (k + e.length) ms xs with
      | some (as, j, os, es) => some (.val b l' :: as, j, none :: os, e ++ es)
      | none => none
    | none => none
  | k, m :: ms, x :: xs => match argT h m x, argsG h k ms xs with
    | some (a, i, o), some (as, j, os, es) => some (a :: as, i ++ j, o :: os, es)
    | _, _ => none
  | k, [], x :: xs => match argT h (.val []) x, argsG h k [] xs with
    | some (a, i, o), some (as, j, os, es) => some (a :: as, i ++ j, o :: os, es)
    | _, _ => none
  | _, _, _ => none

def argsT (h : Nat → Option Node) (ms : List Mode) (xs : List TV) : Option (List Arg × List Nat × List (Option Nat)) :=
  match argsG h xs.length ms xs with
  | some (as, sn, ow, es) => some (as ++ es.map (fun e => .ex e.2), sn, ow ++ es.map (fun e => some e.1))
  | none => none

def noEx (as : List Arg) : Bool := as.all fun a => match a with | .ex _ => false | _ => true

/-- The cells of results, as slots hold them: own slices become nodes from `nid` on. -/
def placeL (nid : Nat) : List Cell → List Cell
  | [] => []
  | .sl true n s _ :: cs => .ref nid 0 n s :: placeL (nid + 1) cs
  | c :: cs => c :: placeL nid cs

def ownsL : List Cell → List (List Cell)
  | [] => []
  | .sl true _ _ l :: cs => l :: ownsL cs
  | _ :: cs => ownsL cs

def placeV (nid : Nat) : List (Bool × List Cell) → List (Bool × List Cell)
  | [] => []
  | (b, l) :: vs => (b, placeL nid l) :: placeV (nid + (ownsL l).length) vs

def ownsV : List (Bool × List Cell) → List (List Cell)
  | [] => []
  | (_, l) :: vs => ownsL l ++ ownsV vs

def newU (nid : Nat) : List (List Cell) → Upds
  | [] => []
  | l :: ls => (nid, some (true, l)) :: newU (nid + 1) ls

def backU : List (Option Nat) → List (Option (List Cell)) → Upds
  | [], _ => []
  | some id :: os, o :: outs => (id, o.map fun c => (true, c)) :: backU os outs
  | some id :: os, [] => (id, none) :: backU os []
  | none :: os, _ :: outs => backU os outs
  | none :: os, [] => backU os []

def resTV : List (Bool × List Cell) → TV
  | [(b, l)] => .v b l
  | vs => .tup vs

mutual
/-- Nothing of it is seen by somebody else. -/
def Cell.pure : Cell → Bool
  | .prim _ | .nil => true
  | .sl o _ _ l => if o then pureL l else l.isEmpty
  | _ => false
def pureL : List Cell → Bool
  | [] => true
  | c :: l => c.pure && pureL l
end

def pureV (vals : List (Bool × List Cell)) (outs : List (Option (List Cell))) : Bool :=
  vals.all (fun p => pureL p.2) && outs.all fun o => match o with | some l => pureL l | none => true

def enterOK (P : Program) (f : FuncId) : Bool :=
  match P.funcs[f]? with
  | some fn => fn.name != "runtime.NumGoroutine" && fn.body.isSome
  | none => false

/-! ### Beginning and end of a call -/
def Arg.tv (j : Nat) : Arg → TV
  | .val b l => .v b l
  | .own true _ _ _ => .v false [.ptr j 0]
  | .own false n s _ => .v false [.ref j 0 n s]
  | .ex _ => .undef

def Arg.node : Arg → Option Node
  | .val _ _ => none
  | .own _ _ _ l => some (true, l)
  | .ex l => some (true, l)

def argTVs : Nat → List Arg → List TV
  | _, [] => []
  | j, a :: as => a.tv j :: argTVs (j + 1) as

def initS (as : List Arg) (ntmps : Nat) : St := ⟨argTVs 0 as ++ List.replicate (ntmps - as.length) .undef, as.map Arg.node⟩

def resVarT (P : Program) (σ : St) : ResultVar → Option (Bool × List Cell)
  | .tmp t => match σ.tv t with
    | .v b l => some (b, l)
    | _ => none
  | .cell a ty => match σ.tv a, szT P ty, rowT P ty with
    | .v false [.ptr id off], some s, some r => match σ.nd id with
      | some (_, cs) => if (r = true ∨ s = 1) ∧ off + s ≤ cs.length ∧ ((cs.drop off).take s).all (fun c => !c.own?) = true then some (r, (cs.drop off).take s) else none
      | none => none
    | _, _, _ => none

def resVarsT (P : Program) (σ : St) : List ResultVar → Option (List (Bool × List Cell))
  | [] => some []
  | r :: rs => match resVarT P σ r, resVarsT P σ rs with
    | some v, some vs => some (v :: vs)
    | _, _ => none

def exC (h : Nat → Option Node) : Cell → Option (Cell × List Nat)
  | .prim v => some (.prim v, [])
  | .nil => some (.nil, [])
  | .sl false n s l => some (.sl false n s l, [])
  | .sl true 0 s [] => some (.sl true 0 s [], [])
  | .ref id off n s => match h id with
    | some (true, cs) => if off = 0 ∧ cs.length = n * s ∧ s ≠ 0 ∧ cs.all Cell.shal = true then some (.sl true n s cs, [id]) else none
    | some (false, cs) => if off + n * s ≤ cs.length ∧ ((cs.drop off).take (n * s)).all Cell.shal = true then some (.sl false n s ((cs.drop off).take (n * s)), []) else none
    | none => none
  | _ => none

def exL (h : Nat → Option Node) : List Nat → List Cell → Option (List Cell × List Nat)
  | _, [] => some ([], [])
  | s :: zs, .nil :: cs => match exL h zs cs with
    | some (cs', j) => some (.sl true 0 s [] :: cs', j)
    | none => none
  | zs, c :: cs => match exC h c, exL h zs cs with
    | some (c', i), some (cs', j) => some (c' :: cs', i ++ j)
    | _, _ => none

/-- `zs`: the element sizes of the nil slices within each result. -/
def exV (h : Nat → Option Node) : List (List Nat) → List (Bool × List Cell) → Option (List (Bool × List Cell) × List Nat)
  | _, [] => some ([], [])
  | zs, (b, l) :: vs => match exL h (zs.headD []) l, exV h zs.tail vs with
    | some (l', i), some (vs', j) => some ((b, l') :: vs', i ++ j)
    | _, _ => none

def outT (h : Nat → Option Node) (used : List Nat) (j : Nat) : Arg → Option (List Cell)
  | .val _ _ => none
  | _ => if used.contains j then none else
    match h j with
    | some (true, cs) => if cs.all Cell.shal = true then some cs else none
    | _ => none

def outsT (h : Nat → Option Node) (used : List Nat) : Nat → List Arg → List (Option (List Cell))
  | _, [] => []
  | j, a :: as => outT h used j a :: outsT h used (j + 1) as

def finT (P : Program) (fn : Func) (zs : List (List Nat)) (σ : St) (as : List Arg) : Option (List (Bool × List Cell) × List (Option (List Cell))) :=
  match resVarsT P σ fn.results.toList with
  | some rv => match exV σ.nd zs rv with
    | some (vals, used) => if used.Nodup then some (vals, outsT σ.nd used 0 as) else none
    | none => none
  | none => none

/-! ### How a T state stands for the machine's -/
structure RSb (k : Base) (n : Nat) (L0 : Nat → Nat × Nat) (bd : Nat → Prop) (σ : St) (a : Act) (w : World) : Prop where
  ex : ∃ L F U, Mem k σ.nd w L F U ∧ (∀ i, RTV (SS k σ.nd L F w) U L w (a.tmps.getD i undef) (σ.tv i)) ∧ (∀ i, U i → bd i) ∧ (∀ i, i < n → U i ∧ L i = L0 i)
  len : σ.t.length ≤ a.tmps.size
  defers : a.defers = []

def RS (k : Base) (n : Nat) (L0 : Nat → Nat × Nat) (σ : St) (a : Act) (w : World) : Prop := RSb k n L0 (· < σ.h.length) σ a w

/-- A step that the machine does not notice. -/
def Gh (n : Nat) (σ σ' : St) : Prop := ∀ k L0 a w, RS k n L0 σ a w → RS k n L0 σ' a w

/-! ### Which order -/
def tmpsR (ops : Array Oper) (o : Oper) : List Nat :=
  (o.op.operands.toList.filterMap fun | .tmp t => some t | _ => none) ++ (match o.guard with | some (g, _) => ((ops[g]?).bind (·.dst)).toList | none => [])

def Cell.id? : Cell → List Nat
  | .ref id _ _ _ => [id]
  | .ptr id _ => [id]
  | _ => []

def TV.ids : TV → List Nat
  | .v _ l => l.flatMap Cell.id?
  | .tup l => l.flatMap fun p => p.2.flatMap Cell.id?
  | .undef => []

def nodesR (σ : St) (o : Oper) : List Nat := o.op.operands.toList.flatMap fun x => (evT σ.t x).ids

/-- The states of a region, operation by operation. -/
def statesT (ops : Array Oper) : St → List (TV × Upds) → Nat → List St
  | _, [], _ => []
  | σ, (r, l) :: us, i => σ :: statesT ops (σ.app ((ops[i]?).bind (·.dst)) r l) us (i + 1)

structure FP where
  tr : List Nat
  tw : List Nat
  nr : List Nat
  nw : List Nat

def fpT (ops : Array Oper) (σ : St) (i : Nat) (u : TV × Upds) : FP :=
  match ops[i]? with
  | some o => ⟨tmpsR ops o, o.dst.toList, nodesR σ o, u.2.map (·.1)⟩
  | none => ⟨[], [], [], []⟩

def FP.apart (a b : FP) : Bool :=
  a.tw.all (fun x => !b.tr.contains x && !b.tw.contains x) && a.tr.all (fun x => !b.tw.contains x) &&
  a.nw.all (fun x => !b.nr.contains x && !b.nw.contains x) && a.nr.all (fun x => !b.nw.contains x)

/-- `j` surely comes behind `i` (looked for `n` steps deep). -/
def befT (ops : Array Oper) : Nat → Nat → Nat → Bool
  | 0, _, _ => false
  | n + 1, i, j => match ops[j]? with
    | some o => o.after.toList.any (fun e => Region.binds .any e && e.on == i) || o.after.toList.any (fun e => Region.binds .any e && befT ops n i e.on)
    | none => false

def fpsT (ops : Array Oper) (σ : St) (us : List (TV × Upds)) : List FP :=
  (List.range us.length).map fun i => fpT ops ((statesT ops σ us 0).getD i ⟨[], []⟩) i (us.getD i (.undef, []))

def orderOK (ops : Array Oper) (depth : Nat) (fps : List FP) : Bool :=
  (List.range fps.length).all fun j => (List.range j).all fun i => (fps.getD i ⟨[], [], [], []⟩).apart (fps.getD j ⟨[], [], [], []⟩) || befT ops depth i j

/-- Fresh nodes are an operation's own, or of one that surely came before. -/
def idsOK (ops : Array Oper) (depth B : Nat) (us : List (TV × Upds)) : Bool :=
  us.zipIdx.all fun p => p.1.2.all fun q => decide (q.1 < B) || (q.1 - B) / 16 == p.2 || befT ops depth ((q.1 - B) / 16) p.2

def afterOK (ops : Array Oper) : Bool :=
  (List.range ops.size).all fun i => match ops[i]? with
    | some o => o.after.toList.all fun e => !Region.binds .any e || decide (e.on < i)
    | none => true

/-! ### What runs to what -/
inductive J where
  | op (nid : Nat) (ops : Array Oper) (i : Nat) (σ : St) (r : TV) (l : Upds)
  | ops (base : Option Nat) (ops : Array Oper) (is : List Nat) (σ σ' : St) (us : List (TV × Upds))
  | code (n : Nat) (c : Code) (σ : St) (out : Out) (σ' : St)
  | loop (n : Nat) (c : Code) (σ : St) (out : Out) (σ' : St)
  | call (f : FuncId) (as : List Arg) (vals : List (Bool × List Cell)) (outs : List (Option (List Cell)))

def nidOf (base : Option Nat) (σ : St) (i : Nat) : Nat :=
  match base with
  | some b => b + 16 * i
  | none => σ.h.length

def outBlock (id : Nat) : Out → Out
  | .exit n => if n = id then .norm else .exit n
  | o => o

inductive D (P : Program) (X : FuncId → List Arg → List (Bool × List Cell) → List (Option (List Cell)) → Prop) : J → Prop
  | opSkip {nid ops i σ o} : ops[i]? = some o → guardT ops σ.t o = some false → D P X (.op nid ops i σ (.tup []) [])
  | opEff {nid ops i σ o r l} : ops[i]? = some o → guardT ops σ.t o = some true → eff P σ.nd nid (evT σ.t) o.op = some (r, l) → D P X (.op nid ops i σ r l)
  | opCall {nid ops i σ o f xs tys ms as sn ow vals outs} : ops[i]? = some o → guardT ops σ.t o = some true → o.op = .call ⟨.value (.func f), xs, tys⟩ → enterOK P f = true →
      argsT σ.nd ms (xs.toList.map (evT σ.t)) = some (as, sn, ow) → (ow.filterMap id).Nodup → (∀ x ∈ sn, some x ∉ ow) →
      D P X (.call f as vals outs) → (sn = [] ∨ pureV vals outs = true) → (ownsV vals).length ≤ 16 →
      D P X (.op nid ops i σ (resTV (placeV nid vals)) (backU ow outs ++ newU nid (ownsV vals)))
  | opsNil {base ops σ} : D P X (.ops base ops [] σ σ [])
  | opsCons {base ops i is σ r l σ' us} : D P X (.op (nidOf base σ i) ops i σ r l) → D P X (.ops base ops is (σ.app ((ops[i]?).bind (·.dst)) r l) σ' us) → D P X (.ops base ops (i :: is) σ σ' ((r, l) :: us))
  | skip {n σ} : D P X (.code n .skip σ .norm σ)
  | ret {n σ} : D P X (.code n .ret σ .ret σ)
  | exit {n m σ} : D P X (.code n (.exit m) σ (.exit m) σ)
  | region {n id ops σ σ' us} : D P X (.ops none ops (List.range ops.size) σ σ' us) → D P X (.code n (.region id ops false) σ .norm σ')
  | draws {n id ops σ σ' us} (depth : Nat) : D P X (.ops (some σ.h.length) ops (List.range ops.size) σ σ' us) → orderOK ops depth (fpsT ops σ us) = true → idsOK ops depth σ.h.length us = true → afterOK ops = true → D P X (.code n (.region id ops true) σ .norm σ')
  | seq {n a b σ σ' out σ''} : D P X (.code n a σ .norm σ') → D P X (.code n b σ' out σ'') → D P X (.code n (.seq a b) σ out σ'')
  | seqOut {n a b σ out σ'} : D P X (.code n a σ out σ') → out ≠ .norm → D P X (.code n (.seq a b) σ out σ')
  | cond {n c a b σ t out σ'} : evT σ.t c = .v false [.prim (.bool t)] → D P X (.code n (if t then a else b) σ out σ') → D P X (.code n (.cond c a b) σ out σ')
  | block {n id c σ out σ'} : D P X (.code n c σ out σ') → D P X (.code n (.block id c) σ (outBlock id out) σ')
  | loop {n c σ out σ'} : D P X (.loop n c σ out σ') → D P X (.code n (.loop c) σ out σ')
  | loopGo {n c σ σ' out σ''} : D P X (.code n c σ .norm σ') → D P X (.loop n c σ' out σ'') → D P X (.loop n c σ out σ'')
  | loopEnd {n c σ out σ'} : D P X (.code n c σ out σ') → out ≠ .norm → D P X (.loop n c σ out σ')
  | ghost {n c σ σ' out σ''} : Gh n σ σ' → D P X (.code n c σ' out σ'') → D P X (.code n c σ out σ'')
  | ghostL {n c σ σ' out σ''} : Gh n σ σ' → D P X (.loop n c σ' out σ'') → D P X (.loop n c σ out σ'')
  | ghostE {n c σ out σ' σ''} : D P X (.code n c σ out σ') → Gh n σ' σ'' → D P X (.code n c σ out σ'')
  | call {f fn c as out σ vals outs} (zs : List (List Nat)) : P.funcs[f]? = some fn → fn.body = some c → (noEx as || Nat.ble as.length fn.ntmps) = true → D P X (.code as.length c (initS as fn.ntmps) out σ) → (out = .norm ∨ out = .ret) → finT P fn zs σ as = some (vals, outs) → D P X (.call f as vals outs)
  | ext {f as vals outs} : X f as vals outs → D P X (.call f as vals outs)

end Go.Proofs.Ytacfohamlkbpjaa
