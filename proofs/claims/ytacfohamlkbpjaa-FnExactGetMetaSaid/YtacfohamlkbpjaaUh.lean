/- Loops, and what is kept of a state: found by itself where it can be. -/
import Derived.Test.YtacfohamlkbpjaaUg
namespace Go.Proofs.Ytacfohamlkbpjaa
open Go Go.RowKit

/-! ### New numbers for nodes, found by the temps that are kept -/
def pairC : List Cell → List Cell → List (Nat × Nat)
  | c :: l, c' :: l' => match c, c' with
    | .ref j _ _ _, .ref m _ _ _ => (j, m) :: pairC l l'
    | .ptr j _, .ptr m _ => (j, m) :: pairC l l'
    | _, _ => pairC l l'
  | _, _ => []

def pairV : TV → TV → List (Nat × Nat)
  | .v _ l, .v _ l' => pairC l l'
  | _, _ => []

def pairT (τ : W) : List (Nat × TV) → List (Nat × Nat)
  | [] => []
  | (i, v) :: t => pairV v (τ.tv i) ++ pairT τ t

/-- Is a number among these? -/
def has (fl : List Nat) (j : Nat) : Bool := match fl with
  | [] => false
  | a :: l => match Nat.beq a j with
    | true => true
    | false => has l j

def autoR (ps : List (Nat × Nat)) (fl : List Nat) (n : Nat) : Nat → List (Option Node) → List (Nat × Bool)
  | _, [] => []
  | j, m :: hs => (match Nat.blt j n with
      | true => j
      | false => match m with
        | none => 0
        | some _ => look j ps j, has fl j) :: autoR ps fl n (j + 1) hs

theorem autoR_len {ps : List (Nat × Nat)} {fl : List Nat} {n : Nat} : ∀ {hs : List (Option Node)} {j : Nat}, (autoR ps fl n j hs).length = hs.length
  | [], _ => rfl
  | _ :: hs, j => by simp [autoR, autoR_len (hs := hs) (j := j + 1)]

/-- A state with fewer temps and nodes, the nodes with new numbers. `fl`: the nodes that lead to others. -/
theorem w_auto {n : Nat} {τ : W} (fl : List Nat) {t : List (Nat × TV)} {hs : List (Option Node)} {nx tn : Nat} (hn : ((autoR (pairT τ t) fl n 0 hs).take n).map (·.1) = List.range n) (hd : keptN (autoR (pairT τ t) fl n 0 hs) hs = true)
    (hnx : nx = hs.length) (htn : tn = τ.tn) (ht : tsOK τ ((autoR (pairT τ t) fl n 0 hs).map (·.1)) t) (hh : hsOK τ ((autoR (pairT τ t) fl n 0 hs).map (·.1)) (autoR (pairT τ t) fl n 0 hs) hs) : WGh n τ ⟨t, idx 0 hs, nx, tn⟩ :=
  w_ren _ hn hd (by rw [hnx, autoR_len]) htn ht hh

/-! ### Loops -/
def fn1 (m : Option Node) (K : Option Node → Prop) : Prop := match m with
  | none => K none
  | some (o, cs) => K (some (o, cs))

theorem fn1_ok {m : Option Node} {K : Option Node → Prop} (h : fn1 m K) : K m := by
  cases m with
  | none => exact h
  | some p => obtain ⟨o, cs⟩ := p; exact h

def keepT (t : List (Nat × TV)) : List Nat → (List (Nat × TV) → Prop) → Prop
  | [], K => K []
  | i :: is, K => fv (look .undef t i) fun v => keepT t is fun l => K ((i, v) :: l)

theorem keepT_ok {t : List (Nat × TV)} : ∀ {is : List Nat} {K : List (Nat × TV) → Prop}, keepT t is K → ∃ l, K l
  | [], _, h => ⟨_, h⟩
  | i :: is, K, h => by
    have h1 := fv_ok (K := fun v => keepT t is fun l => K ((i, v) :: l)) h
    obtain ⟨l, h2⟩ := keepT_ok h1
    exact ⟨_, h2⟩

def keepN {ι : Type} (h : List (Nat × Option Node)) : Nat → List (Option (ι → Option Node)) → (List (ι → Option Node) → Prop) → Prop
  | _, [], K => K []
  | j, m :: s, K => match m with
    | none => fn1 (look none h j) fun m => keepN h (j + 1) s fun l => K ((fun _ => m) :: l)
    | some f => keepN h (j + 1) s fun l => K (f :: l)

theorem keepN_ok {ι : Type} {h : List (Nat × Option Node)} : ∀ {s : List (Option (ι → Option Node))} {j : Nat} {K : List (ι → Option Node) → Prop}, keepN h j s K → ∃ l, K l
  | [], _, _, hh => ⟨_, hh⟩
  | none :: s, j, K, hh => by
    have h1 := fn1_ok (K := fun m => keepN h (j + 1) s fun l => K ((fun _ => m) :: l)) hh
    obtain ⟨l, h2⟩ := keepN_ok h1
    exact ⟨_, h2⟩
  | some f :: s, j, K, hh => by
    obtain ⟨l, h2⟩ := keepN_ok (K := fun l => K (f :: l)) hh
    exact ⟨_, h2⟩

/-- The temps `kt` and the nodes told `none` stay as they are; the others are told by `i`. -/
abbrev stI {ι : Type} (vt : ι → List (Nat × TV)) (T : List (Nat × TV)) (l : List (ι → Option Node)) (tn : Nat) (i : ι) : W := ⟨vt i ++ T, idx 0 (l.map fun f => f i), l.length, tn⟩

theorem loopk {P : Program} {X : FuncId → List Arg → List (Bool × List Cell) → List (Option (List Cell)) → Prop} {md : FuncId → List Mode} {n : Nat} {c : Code} {τ : W} {E : Nat → W → Prop} {R : W → Prop} {ι : Type} (Inv : ι → Prop) (μ : ι → Nat) (i0 : ι)
    (kt : List Nat) (vt : ι → List (Nat × TV)) (sl : List (Option (ι → Option Node)))
    (h : keepT τ.t kt fun T => keepN τ.h 0 sl fun l => Inv i0 ∧ WGh n τ (stI vt T l τ.tn i0) ∧ ∀ i, Inv i → wCode P X md n c (stI vt T l τ.tn i) fun o τ' => match o with
      | .norm => ∃ j : { i : ι // Inv i }, μ j.1 < μ i ∧ WGh n τ' (stI vt T l τ.tn j.1)
      | .exit m => E m τ'
      | .ret => R τ') :
    ∃ (ι : Type) (I : ι → W) (μ : ι → Nat) (i0 : ι), WGh n τ (I i0) ∧ ∀ i, wCode P X md n c (I i) fun o τ' => match o with
      | .norm => ∃ j, μ j < μ i ∧ WGh n τ' (I j)
      | .exit m => E m τ'
      | .ret => R τ' := by
  obtain ⟨T, h⟩ := keepT_ok h
  obtain ⟨l, h1, h2, h3⟩ := keepN_ok h
  exact ⟨{ i : ι // Inv i }, fun i => stI vt T l τ.tn i.1, fun i => μ i.1, ⟨i0, h1⟩, h2, fun i => h3 i.1 i.2⟩

end Go.Proofs.Ytacfohamlkbpjaa
