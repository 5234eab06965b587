/- Functions of the program, each with what it gives back. -/
import Derived.Test.YtmphoefccibibaaKe
import Derived.Test.YtmphoefccibibaaChecked
import Derived.IntWalk
import Derived.Test.YtmphoefccibibaaDc
namespace Go.Proofs.Ytmphoefccibibaa
open Go Go.RowKit Go.IntWalk
open Enc (sz cs)
attribute [local irreducible] IntKind.wrap

/-! ### The first part of a node -/
section
variable {k : Base} {h : Nat → Option Node} {w : World} {L : Nat → Nat × Nat} {F : Nat → List Nat} {U : Nat → Prop}
theorem Mem.shrink (m : Mem k h w L F U) {i : Nat} {c1 c2 : List Cell} (hi : h i = some (true, c1 ++ c2)) (hz : c1 ≠ []) :
    ∃ F', Mem k (upd h i (some (true, c1))) w L F' U ∧ Mono k h w L F U (upd h i (some (true, c1))) w L F' U := by
  obtain ⟨hUi, us, h1, h2, h3, _⟩ := m.node i _ hi
  obtain ⟨u1, u2, F1, F2, eu, eF, r1, r2⟩ := Rep.split h2
  have hne : c1 ++ c2 ≠ [] := by cases c1 with | nil => exact absurd rfl hz | cons a l => simp
  have OI : Own (upd h i (some (true, c1))) L (upd F i F1) i = (L i).1 :: F1 := by rw [own_of (upd_same _ _ _), upd_same, OB_ne hz]
  have OH : Own h L F i = (L i).1 :: F i := by rw [own_of hi, OB_ne hne]
  have OO : ∀ x, x ≠ i → Own (upd h i (some (true, c1))) L (upd F i F1) x = Own h L F x := fun x e => by simp [Own, upd_other _ _ e]
  have hO : ∀ x, ∀ b ∈ Own (upd h i (some (true, c1))) L (upd F i F1) x, b ∈ Own h L F x := fun x b hb => by
    by_cases e : x = i
    · subst e
      rw [OI] at hb
      rw [OH, eF]
      rcases List.mem_cons.1 hb with rfl | hb
      · exact List.mem_cons_self ..
      · exact List.mem_cons_of_mem _ (List.mem_append_left _ hb)
    · rw [OO x e] at hb; exact hb
  refine ⟨upd F i F1, m.master (Grows.refl w) rfl rfl rfl (fun x b hb => .inl ⟨x, hO x b hb⟩) (fun x => ?_) (fun x y hxy b hb hc => m.disj x y hxy b (hO x b hb) (hO y b hc)) (fun b _ _ => rfl)
    (fun i hi => ⟨hi, rfl⟩) (fun mo x nd hx => ?_)⟩
  · by_cases e : x = i
    · subst e
      have := m.nodup x
      rw [OH, eF] at this
      rw [OI]
      exact List.Sublist.nodup (List.Sublist.cons_cons _ (List.sublist_append_left F1 F2)) this
    · rw [OO x e]; exact m.nodup x
  · by_cases e : x = i
    · subst e
      rw [upd_same] at hx
      obtain rfl := Option.some.inj hx
      refine ⟨hUi, u1, fun j v hv => h1 j v (by
        rw [eu, List.getElem?_append_left (List.getElem?_eq_some_iff.1 hv).1]; exact hv), ?_, fun _ => (h3 hne).mono (by rw [eu, List.length_append]; omega), fun q => by cases q⟩
      rw [upd_same]
      exact mo.repF r1 (fun _ _ => rfl)
    · rw [upd_other _ _ e] at hx
      exact m.keep mo hx (by simp [upd_other _ _ e]) (fun _ _ => rfl)
end
theorem gh_shrink {n i : Nat} {σ : St} {c1 c2 : List Cell} (hi : σ.nd i = some (true, c1 ++ c2)) (hz : c1 ≠ []) : Gh n σ ⟨σ.t, setH σ.h i (some (true, c1))⟩ := by
  intro k L0 a w hrs
  obtain ⟨⟨L, F, U, m, ht, hU, hnn⟩, hlen, hdf⟩ := hrs
  obtain ⟨F', m', mo⟩ := m.shrink hi hz
  have e : (⟨σ.t, setH σ.h i (some (true, c1))⟩ : St).nd = upd σ.nd i (some (true, c1)) := ndOf_setH _ _ _
  rw [← e] at m' mo
  exact rs_of ht hnn hlen hdf m' mo rfl (fun j hj => by
    show j < (setH σ.h i _).length
    rw [setH_length]; have := hU j hj; omega)
theorem w_shr {n : Nat} {t h nx tn} (i : Nat) (c1 c2 : List Cell) {cs0 : List Cell} (hi : look none h i = some (true, cs0) := by rfl) (h1 : cs0 = c1 ++ c2) (hz : c1 ≠ []) : WGh n ⟨t, h, nx, tn⟩ ⟨t, (i, some (true, c1)) :: h, nx, tn⟩ := by
  subst h1
  refine w_of fun σ s => ⟨_, gh_shrink ((s.nd i).trans hi) hz, s.tv, fun x => look_setH s i _ x, ?_, s.tn⟩
  show (setH σ.h i _).length = nx
  rw [setH_length, s.nx]; have := nd_lt' s hi; simp at this ⊢; omega

end Go.Proofs.Ytmphoefccibibaa
