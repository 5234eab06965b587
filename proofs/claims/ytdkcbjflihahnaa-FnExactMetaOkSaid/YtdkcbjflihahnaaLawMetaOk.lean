/- Proved: for every input the law FnExactMetaOk returns true, and its argument reads behind the call as it read before. No further condition. -/
import Derived.Test.YtdkcbjflihahnaaUe
import Derived.Test.YtdkcbjflihahnaaChecked
import Derived.Test.YtdkcbjflihahnaaRows
import Derived.ProofKit
namespace Go.Proofs.Ytdkcbjflihahnaa
open Go Go.RowKit

abbrev X0 : FuncId → List Arg → List (Bool × List Cell) → List (Option (List Cell)) → Prop := fun _ _ _ _ => False
abbrev T (f : FuncId) (a : List Arg) (vals : List (Bool × List Cell)) (outs : List (Option (List Cell))) : Prop := D Try.prog X0 (.call f a vals outs)
abbrev i6 (n : Int) : Cell := .prim (.int .i64 n)
abbrev b1 (b : Bool) : Cell := .prim (.bool b)
abbrev aI (n : Int) : Arg := .val false [i6 n]
abbrev vB (b : Bool) : Bool × List Cell := (false, [b1 b])
def md : FuncId → List Mode := fun _ => []

def inB (n l h : Int) : Bool := decide (l ≤ n) && decide (n ≤ h)

set_option maxRecDepth 100000 in
theorem t64 (n l h : Int) : T 64 [aI n, aI l, aI h] [vB (inB n l h)] [none, none, none] := by
  refine w_call md [] Try.func64 rfl ?_
  refine ⟨_, .refl, ?_⟩
  refine And.intro (fun h1 => ?_) (fun h1 => ?_)
  · refine And.intro (fun h2 => ?_) (fun h2 => ?_)
    · refine ⟨_, .refl, ?_⟩
      refine ⟨_, .refl, ?_⟩
      refine ⟨?_, rfl⟩
      simp [inB]; omega
    · refine ⟨_, .refl, _, .refl, ?_, rfl⟩
      simp [inB]; omega
  · refine ⟨_, .refl, _, .refl, ?_, rfl⟩
    simp [inB]; omega

set_option maxRecDepth 100000 in
theorem t63 (n l h : Int) : T 63 [aI n, aI l, aI h] [vB (inB n l h)] [none, none, none] := by
  refine w_call md [] Try.func63 rfl ?_
  refine ⟨_, .refl, ?_⟩
  refine And.intro (fun h1 => ?_) (fun h1 => ?_)
  · refine And.intro (fun h2 => ?_) (fun h2 => ?_)
    · refine ⟨_, .refl, _, .refl, ?_, rfl⟩
      simp [inB]; omega
    · refine ⟨_, .refl, _, .refl, ?_, rfl⟩
      simp [inB]; omega
  · refine ⟨_, .refl, _, .refl, ?_, rfl⟩
    simp [inB]; omega

set_option maxRecDepth 100000 in
theorem t65 (n : Int) : T 65 [aI n] [vB (inB n 2 47)] [none] := by
  refine w_call md [] Try.func65 rfl ?_
  refine ⟨_, .refl, ?_⟩
  refine ⟨_, _, _, rfl, t64 _ _ _, .inl rfl, Nat.zero_le _, ?_⟩
  refine ⟨_, .refl, _, .refl, rfl, rfl⟩

def metaOkB (g r : Int) : Bool := inB g 0 1000000 && (decide (r = 0) || inB r 2 47)

set_option maxRecDepth 100000 in
theorem t14 (g r : Int) : T 14 [.val true [i6 g, i6 r]] [vB (metaOkB g r)] [none] := by
  refine w_call md [] Try.func14 rfl ?_
  refine ⟨_, .refl, ?_⟩
  refine ⟨_, rfl, ?_⟩
  refine ⟨_, _, _, rfl, t63 _ _ _, .inl rfl, Nat.zero_le _, ?_⟩
  cases h1 : inB g 0 1000000
  · refine ⟨_, .refl, _, .refl, ?_, rfl⟩
    simp [metaOkB, h1]
  · refine ⟨_, rfl, ?_⟩
    refine And.intro (fun h2 => ?_) (fun h2 => ?_)
    · refine ⟨_, .refl, _, .refl, ?_, rfl⟩
      simp [metaOkB, h1, h2]
    · refine ⟨_, rfl, ?_⟩
      refine ⟨_, _, _, rfl, t63 _ _ _, .inl rfl, Nat.zero_le _, ?_⟩
      refine ⟨_, .refl, _, .refl, ?_, rfl⟩
      simp [metaOkB, h1, h2]

set_option maxRecDepth 100000 in
theorem t16 (g r : Int) : T 16 [.val true [i6 g, i6 r]] [vB (metaOkB g r)] [none] := by
  refine w_call md [] Try.func16 rfl ?_
  refine ⟨_, .refl, ?_⟩
  refine ⟨_, rfl, ?_⟩
  refine ⟨_, _, _, rfl, t64 _ _ _, .inl rfl, Nat.zero_le _, ?_⟩
  cases h1 : inB g 0 1000000
  · refine ⟨_, .refl, _, .refl, ?_, rfl⟩
    simp [metaOkB, h1]
  · refine ⟨_, rfl, ?_⟩
    refine And.intro (fun h2 => ?_) (fun h2 => ?_)
    · refine ⟨_, .refl, _, .refl, ?_, rfl⟩
      simp [metaOkB, h1, h2]
    · refine ⟨_, rfl, ?_⟩
      refine ⟨_, _, _, rfl, t65 _, .inl rfl, Nat.zero_le _, ?_⟩
      refine ⟨_, .refl, _, .refl, ?_, rfl⟩
      simp [metaOkB, h1, h2]

set_option maxRecDepth 100000 in
theorem t15 (g r : Int) : T 15 [.val true [i6 g, i6 r]] [(true, [i6 g, i6 r])] [none] := by
  refine w_call md [] Try.func15 rfl ?_
  repeat (first | refine ⟨_, rfl, ?_⟩ | refine ⟨_, .refl, ?_⟩)
  exact ⟨rfl, rfl⟩

set_option maxRecDepth 100000 in
theorem t3 (g r : Int) : T 3 [.val true [i6 g, i6 r]] [vB true] [none] := by
  refine w_call md [] Try.func3 rfl ?_
  repeat (first | refine ⟨_, rfl, ?_⟩ | refine ⟨_, .refl, ?_⟩)
  refine ⟨_, _, _, rfl, t15 _ _, .inl rfl, Nat.zero_le _, ?_⟩
  refine ⟨_, _, _, rfl, t14 _ _, .inl rfl, Nat.zero_le _, ?_⟩
  repeat (first | refine ⟨_, rfl, ?_⟩ | refine ⟨_, .refl, ?_⟩)
  refine ⟨_, _, _, rfl, t15 _ _, .inl rfl, Nat.zero_le _, ?_⟩
  refine ⟨_, _, _, rfl, t16 _ _, .inl rfl, Nat.zero_le _, ?_⟩
  cases h1 : metaOkB g r
  · repeat (first | refine ⟨_, .refl, ?_⟩)
    exact ⟨rfl, rfl⟩
  · repeat (first | refine ⟨_, .refl, ?_⟩)
    exact ⟨rfl, rfl⟩

set_option maxRecDepth 100000 in
theorem fit_meta {a : List Arg} (h : FitAll Try.prog 9 [23] a) : ∃ g r, a = [.val true [i6 g, i6 r]] := by
  cases h with
  | @cons _ l _ _ h1 h2 =>
    cases h2
    obtain ⟨fs, hu⟩ : ∃ fs, Try.prog.underlying 23 = some (.struct fs) := ⟨_, rfl⟩
    have h3 : Each (fun (f : Field) l => fitN Try.prog 8 f.type l) [_, _] l := h1
    cases h3 with
    | cons a1 h4 =>
      cases h4 with
      | cons a2 h5 =>
        cases h5
        obtain ⟨g, rfl, _⟩ := a1
        obtain ⟨r, rfl, _⟩ := a2
        exact ⟨g, r, rfl⟩
theorem own0 : ownKnob Try.prog.godebug = none := by kernel_rfl
theorem laid0 : laidOutB Try.prog = true := by kernel_rfl

set_option maxRecDepth 100000 in
theorem lifted (os : Os) (started : os.Started) (H : Type) (enc : TypeId × Value → H) :
    ReturnsInHanded {} Try.checked os 3 .any (Rows.fnExactMetaOkSpec.pre6 enc Try.prog Try.f3 [] false) (Rows.fnExactMetaOkSpec.post enc Try.prog Try.f3 false true false false) :=
  law_row (C := Try.checked) (d := 9) (rt := 4) own0 started (by kernel_rfl) Try.func3
    (ChangeSpec.witness6 (enc := enc) (C := Try.checked) false ⟨#[], #[.agg #[.int .i64 0, .int .i64 0]], []⟩ 8 (by kernel_rfl) (by kernel_rfl) (by kernel_rfl) (by kernel_rfl)) laid0 rfl
    (by decide +kernel) (by kernel_rfl) rfl (by kernel_rfl)
    (fun ds hl => by
      match ds, hl with
      | [d], _ => rfl)
    (fun a ha => by
      obtain ⟨g, r, rfl⟩ := fit_meta ha
      exact ⟨_, sound (by kernel_rfl) (fun _ _ _ _ h => h.elim) (t3 g r)⟩)

theorem x_holds : Rows.FnExactMetaOkSaid :=
  OpenClaim.holds_of_wide 3 Try.f3 rfl rfl rfl rfl rfl rfl rfl ⟨rfl, rfl, rfl, rfl, rfl⟩ rfl rfl rfl rfl rfl (by kernel_rfl) Try.func3 (by kernel_rfl)
    (of_decide_eq_true (by kernel_rfl)) (by unfold Func.isWrapper; first | (rw [if_pos (by decide +kernel)]; kernel_rfl) | (rw [if_neg (by decide +kernel)]; exact ⟨rfl, rfl⟩))
    (fun os started H enc _ => lifted os started H enc)

#print axioms x_holds
end Go.Proofs.Ytdkcbjflihahnaa
