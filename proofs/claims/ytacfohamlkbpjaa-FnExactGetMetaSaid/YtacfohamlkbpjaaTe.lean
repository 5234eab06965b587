/- Steps that turn no memory: a node put into the cell that leads to it, a node drawn out of a cell, a node that nobody writes any more. -/
import Derived.Test.YtacfohamlkbpjaaTd
namespace Go.Proofs.Ytacfohamlkbpjaa
open Go Go.RowKit

section
variable {k : Base} {h : Nat → Option Node} {w : World} {L : Nat → Nat × Nat} {F : Nat → List Nat} {U : Nat → Prop}

/-- A node that is led to by a cell of another one becomes a part of that cell. -/
theorem Mem.inline (m : Mem k h w L F U) {i j n s : Nat} {A C cs : List Cell} (hij : i ≠ j) (hi : h i = some (true, A ++ [.ref j 0 n s] ++ C)) (hj : h j = some (true, cs))
    (hs : cs.all Cell.shal = true) (hl : cs.length = n * s) (hsz : s ≠ 0) :
    ∃ F', Mem k (upd (upd h j none) i (some (true, A ++ [.sl true n s cs] ++ C))) w L F' U ∧ Mono k h w L F U (upd (upd h j none) i (some (true, A ++ [.sl true n s cs] ++ C))) w L F' U := by
  have hzi : ∀ c : Cell, A ++ [c] ++ C ≠ [] := fun c => by simp
  obtain ⟨_, us, h1, h2, h3, _⟩ := m.node i _ hi
  obtain ⟨_, vs, g1, g2, g3, _⟩ := m.node j _ hj
  have h3 := h3 (hzi _)
  simp only at h2 g2
  obtain ⟨usAB, usC, FAB, FC, rfl, eF, rAB, rC⟩ := h2.split
  obtain ⟨usA, usB, FA, FB, rfl, rfl, rA, rB⟩ := rAB.split
  have hcl := g2.closed hs
  have hmidAll : FB = [] ∧ ∀ S' : Nat → Prop, Rep S' U L w vs cs (F j) → Rep S' U L w usB [.sl true n s cs] (OB (L j).1 (F j) cs) := by
    cases rB with
    | ref a1 a2 a3 hz a4 =>
      cases a4
      refine ⟨rfl, fun S' g2' => ?_⟩
      have hne : cs ≠ [] := fun e => by
        rw [e] at hl
        rcases Nat.mul_eq_zero.1 (show n * s = 0 from hl.symm) with q | q
        · exact hz q
        · exact hsz q
      rw [OB_ne hne]
      have := @Rep.own S' U L w (L j).1 ((L j).2 + 0) n _ s cs vs (F j) [] [] [] (by simpa using a2) hl a3 (by simpa using g1) hcl hne g2' .nil
      simpa using this
    | ref0 a1 a2 a3 =>
      cases a3
      obtain rfl : cs = [] := by simpa using hl
      exact ⟨rfl, fun S' _ => .own0 a2 .nil⟩
  obtain ⟨rfl, hmid⟩ := hmidAll
  let F' := upd F i (FA ++ OB (L j).1 (F j) cs ++ FC)
  have eF' : F i = FA ++ FC := by rw [eF]; simp
  have OI : Own (upd (upd h j none) i (some (true, A ++ [.sl true n s cs] ++ C))) L F' i = (L i).1 :: (FA ++ OB (L j).1 (F j) cs ++ FC) := by
    rw [own_ne (upd_same _ _ _) (hzi _)]; simp [F', upd_same]
  have OJ : Own (upd (upd h j none) i (some (true, A ++ [.sl true n s cs] ++ C))) L F' j = [] := by simp [Own, upd_other _ _ (Ne.symm hij), upd_same]
  have OO : ∀ x, x ≠ i → x ≠ j → Own (upd (upd h j none) i (some (true, A ++ [.sl true n s cs] ++ C))) L F' x = Own h L F x := fun x e1 e2 => by simp [Own, upd_other _ _ e1, upd_other _ _ e2, F']
  have mI : ∀ b, b ∈ (L i).1 :: (FA ++ OB (L j).1 (F j) cs ++ FC) ↔ b ∈ Own h L F i ∨ b ∈ Own h L F j := by
    intro b; rw [own_ne hi (hzi _), own_of hj, eF']; simp; grind
  have ndI : ((L i).1 :: (FA ++ OB (L j).1 (F j) cs ++ FC)).Nodup := by
    have n1 := m.nodup i; have n2 := m.nodup j; have d := m.disj i j hij
    rw [own_ne hi (hzi _), eF'] at n1 d
    rw [own_of hj] at n2 d
    have : ((L i).1 :: (FA ++ OB (L j).1 (F j) cs ++ FC)).Perm (((L i).1 :: (FA ++ FC)) ++ OB (L j).1 (F j) cs) := by
      simp only [List.cons_append, List.append_assoc]
      refine List.Perm.cons _ ?_
      refine List.Perm.append_left _ ?_
      exact List.perm_append_comm
    rw [this.nodup_iff]
    exact List.nodup_append.2 ⟨n1, n2, fun a ha b hb e => d a ha (e ▸ hb)⟩
  refine ⟨F', m.master (Grows.refl w) rfl rfl rfl (fun x b hb => .inl ?_) (fun x => ?_) (fun x y hxy b hb hc' => ?_) (fun b _ _ => rfl) (fun i hi => ⟨hi, rfl⟩) (fun mo x nd hx => ?_)⟩
  · by_cases e1 : x = i
    · subst e1; rw [OI] at hb
      rcases (mI b).1 hb with q | q
      · exact ⟨_, q⟩
      · exact ⟨_, q⟩
    · by_cases e2 : x = j
      · subst e2; rw [OJ] at hb; cases hb
      · rw [OO x e1 e2] at hb; exact ⟨_, hb⟩
  · by_cases e1 : x = i
    · subst e1; rw [OI]; exact ndI
    · by_cases e2 : x = j
      · subst e2; rw [OJ]; simp
      · rw [OO x e1 e2]; exact m.nodup x
  · have key : ∀ y, y ≠ i → y ≠ j → ∀ b ∈ Own h L F y, b ∉ (L i).1 :: (FA ++ OB (L j).1 (F j) cs ++ FC) := fun y e1 e2 b hb hc' => by
      rcases (mI b).1 hc' with q | q
      · exact m.disj y i e1 b hb q
      · exact m.disj y j e2 b hb q
    by_cases e1 : x = i
    · subst e1; rw [OI] at hb
      by_cases e2 : y = j
      · subst e2; rw [OJ] at hc'; cases hc'
      · rw [OO y (Ne.symm hxy) e2] at hc'; exact key y (Ne.symm hxy) e2 b hc' hb
    · by_cases e2 : x = j
      · subst e2; rw [OJ] at hb; cases hb
      · rw [OO x e1 e2] at hb
        by_cases e3 : y = i
        · subst e3; rw [OI] at hc'; exact key x e1 e2 b hb hc'
        · by_cases e4 : y = j
          · subst e4; rw [OJ] at hc'; cases hc'
          · rw [OO y e3 e4] at hc'; exact m.disj x y hxy b hb hc'
  · by_cases e1 : x = i
    · subst e1
      rw [upd_same] at hx
      obtain rfl := Option.some.inj hx
      refine ⟨(m.node x _ hi).1, _, h1, ?_, fun _ => h3, fun e => by cases e⟩
      have rA' := mo.repF rA (fun _ _ => rfl)
      have rC' := mo.repF rC (fun _ _ => rfl)
      have g2' := mo.repF g2 (fun _ _ => rfl)
      simp only [F', upd_same]
      have := (rA'.append (hmid _ g2')).append rC'
      simpa [F'] using this
    · by_cases e2 : x = j
      · subst e2; rw [upd_other _ _ e1, upd_same] at hx; cases hx
      · rw [upd_other _ _ e1, upd_other _ _ e2] at hx
        exact m.keep mo hx (by simp [F', upd_other _ _ e1]) (fun _ _ => rfl)

/-- A slice within a node becomes a node of its own, to which the cell leads. -/
theorem Mem.drawOut (m : Mem k h w L F U) {i nid n s : Nat} {A C cs : List Cell} (hi : h i = some (true, A ++ [.sl true n s cs] ++ C)) (hn : h nid = none) (hU : ¬ U nid) :
    ∃ L' F', Mem k (upd (upd h i (some (true, A ++ [.ref nid 0 n s] ++ C))) nid (some (true, cs))) w L' F' (fun x => U x ∨ x = nid) ∧
      Mono k h w L F U (upd (upd h i (some (true, A ++ [.ref nid 0 n s] ++ C))) nid (some (true, cs))) w L' F' (fun x => U x ∨ x = nid) := by
  have hne : i ≠ nid := fun e => by rw [e, hn] at hi; cases hi
  have hzi : ∀ c : Cell, A ++ [c] ++ C ≠ [] := fun c => by simp
  obtain ⟨hUi, us, h1, h2, h3, _⟩ := m.node i _ hi
  have h3 := h3 (hzi _)
  simp only at h2
  obtain ⟨usAB, usC, FAB, FC, rfl, eF, rAB, rC⟩ := h2.split
  obtain ⟨usA, usB, FA, FB, rfl, rfl, rA, rB⟩ := rAB.split
  have hrB : ∃ b o ws F1, FB = OB b F1 cs ∧ (cs = [] → F1 = []) ∧ w.rangeAt b o ws ∧ Rep (SS k h L F w) U L w ws cs F1 ∧ (cs ≠ [] → Wr w b (o + ws.length)) ∧
      ∀ (S' U' : Nat → Prop) (L' : Nat → Nat × Nat), U' nid → L' nid = (b, o) → Rep S' U' L' w usB [.ref nid 0 n s] [] := by
    cases rB with
    | @own b o _ cap _ _ ws F1 _ _ _ a1 a2 a3 a4 a5 hz a6 a7 =>
      cases a7
      refine ⟨b, o, ws, F1, by rw [OB_ne hz]; simp, fun e => absurd e hz, a4, a6, fun _ => a1.mono ?_, fun S' U' L' hu e => ?_⟩
      · have := a6.length; have := Nat.mul_le_mul_right s a3; omega
      · have hn0 : n ≠ 0 := fun e => hz (by subst e; simpa using a2)
        have := @Rep.ref S' U' L' w nid 0 n s cap [] [] [] hu (by rw [e]; simpa using a1) a3 hn0 .nil
        rw [e] at this; simpa using this
    | own0 a1 a2 =>
      cases a2
      exact ⟨0, 0, [], [], rfl, fun _ => rfl, rangeAt_nil _ _ _, .nil, fun q => absurd rfl q, fun S' U' L' hu _ => .ref0 hu a1 .nil⟩
  obtain ⟨b0, o0, ws, F1, rfl, hF1, hws, hrw, hW, hmid⟩ := hrB
  let L' := upd L nid (b0, o0)
  let F' := upd (upd F i (FA ++ FC)) nid F1
  let h' := upd (upd h i (some (true, A ++ [.ref nid 0 n s] ++ C))) nid (some (true, cs))
  have OI : Own h' L' F' i = (L i).1 :: (FA ++ FC) := by
    rw [own_ne (show h' i = some (true, A ++ [.ref nid 0 n s] ++ C) by simp [h', upd_other _ _ hne, upd_same]) (hzi _)]
    simp [L', F', upd_other _ _ hne, upd_same]
  have ON : Own h' L' F' nid = OB b0 F1 cs := by simp [Own, h', L', F', upd_same]
  have OO : ∀ x, x ≠ i → x ≠ nid → Own h' L' F' x = Own h L F x := fun x e1 e2 => by simp [Own, h', L', F', upd_other _ _ e1, upd_other _ _ e2]
  have nd := m.nodup i
  rw [own_ne hi (hzi _), eF] at nd
  have P1 : ((L i).1 :: (FA ++ OB b0 F1 cs ++ FC)).Perm (((L i).1 :: (FA ++ FC)) ++ OB b0 F1 cs) := by
    simp only [List.cons_append, List.append_assoc]
    refine List.Perm.cons _ (List.Perm.append_left _ ?_)
    exact List.perm_append_comm
  have nd' := (P1.nodup_iff).1 nd
  obtain ⟨n1, n2, n3⟩ := List.nodup_append.1 nd'
  have mem : ∀ b, b ∈ (L i).1 :: (FA ++ FC) ∨ b ∈ OB b0 F1 cs → b ∈ Own h L F i := fun b hb => by
    rw [own_ne hi (hzi _), eF, P1.mem_iff]; exact List.mem_append.2 hb
  refine ⟨L', F', m.master (Grows.refl w) rfl rfl rfl (fun x b hb => .inl ?_) (fun x => ?_) (fun x y hxy b hb hc' => ?_) (fun b _ _ => rfl)
    (fun i hi => ⟨.inl hi, upd_other _ _ (fun e => hU (e ▸ hi))⟩) (fun mo x nd hx => ?_)⟩
  · by_cases e1 : x = nid
    · subst e1; rw [ON] at hb; exact ⟨i, mem b (.inr hb)⟩
    · by_cases e2 : x = i
      · subst e2; rw [OI] at hb; exact ⟨_, mem b (.inl hb)⟩
      · rw [OO x e2 e1] at hb; exact ⟨_, hb⟩
  · by_cases e1 : x = nid
    · subst e1; rw [ON]; exact n2
    · by_cases e2 : x = i
      · subst e2; rw [OI]; exact n1
      · rw [OO x e2 e1]; exact m.nodup x
  · by_cases e1 : x = nid
    · subst e1; rw [ON] at hb
      by_cases e2 : y = i
      · subst e2; rw [OI] at hc'; exact n3 b hc' b hb rfl
      · rw [OO y e2 (Ne.symm hxy)] at hc'; exact m.disj i y (Ne.symm e2) b (mem b (.inr hb)) hc'
    · by_cases e2 : x = i
      · subst e2; rw [OI] at hb
        by_cases e3 : y = nid
        · subst e3; rw [ON] at hc'; exact n3 b hb b hc' rfl
        · rw [OO y (Ne.symm hxy) e3] at hc'; exact m.disj x y hxy b (mem b (.inl hb)) hc'
      · rw [OO x e2 e1] at hb
        by_cases e3 : y = nid
        · subst e3; rw [ON] at hc'; exact m.disj x i e2 b hb (mem b (.inr hc'))
        · by_cases e4 : y = i
          · subst e4; rw [OI] at hc'; exact m.disj x y hxy b hb (mem b (.inl hc'))
          · rw [OO y e4 e3] at hc'; exact m.disj x y hxy b hb hc'
  · by_cases e1 : x = nid
    · subst e1
      simp only [upd_same] at hx
      obtain rfl := Option.some.inj hx
      refine ⟨.inr rfl, ws, by simpa [L', upd_same] using hws, ?_, ?_, fun e => by cases e⟩
      · simp only [F', upd_same]; exact mo.repF hrw (fun _ _ => rfl)
      · simp only [L', upd_same]; exact hW
    · by_cases e2 : x = i
      · subst e2
        rw [upd_other _ _ e1, upd_same] at hx
        obtain rfl := Option.some.inj hx
        have eL : L' x = L x := upd_other _ _ e1
        refine ⟨.inl hUi, _, by rw [eL]; exact h1, ?_, fun _ => by rw [eL]; exact h3, fun e => by cases e⟩
        have rA' := mo.repF rA (fun _ _ => rfl)
        have rC' := mo.repF rC (fun _ _ => rfl)
        have eN : L' nid = (b0, o0) := upd_same _ _ _
        have := (rA'.append (hmid (SS k h' L' F' w) (fun x => U x ∨ x = nid) L' (.inr rfl) eN)).append rC'
        have e3 : F' x = FA ++ FC := by simp [F', upd_other _ _ e1, upd_same]
        rw [e3]
        simpa using this
      · rw [upd_other _ _ e1, upd_other _ _ e2] at hx
        exact m.keep mo hx (by simp [F', upd_other _ _ e1, upd_other _ _ e2]) (fun _ _ => rfl)

/-- Nobody writes node `i` any more. -/
theorem Mem.freeze (m : Mem k h w L F U) {i : Nat} {cs : List Cell} (hi : h i = some (true, cs)) :
    ∃ F', Mem k (upd h i (some (false, roifyL cs))) w L F' U ∧ Mono k h w L F U (upd h i (some (false, roifyL cs))) w L F' U := by
  obtain ⟨hUi, us, h1, h2, h3, _⟩ := m.node i _ hi
  let F' := upd F i []
  have OI : Own (upd h i (some (false, roifyL cs))) L F' i = [] := by simp [Own, upd_same]
  have OO : ∀ x, x ≠ i → Own (upd h i (some (false, roifyL cs))) L F' x = Own h L F x := fun x e => by simp [Own, upd_other _ _ e, F']
  have hO : ∀ x, ∀ b ∈ Own (upd h i (some (false, roifyL cs))) L F' x, x ≠ i ∧ b ∈ Own h L F x := fun x b hb => by
    by_cases e : x = i
    · subst e; rw [OI] at hb; cases hb
    · rw [OO x e] at hb; exact ⟨e, hb⟩
  refine ⟨F', m.master (Grows.refl w) rfl rfl rfl (fun x b hb => .inl ⟨x, (hO x b hb).2⟩) (fun x => ?_) (fun x y hxy b hb hc => m.disj x y hxy b (hO x b hb).2 (hO y b hc).2) (fun b _ _ => rfl)
    (fun i hi => ⟨hi, rfl⟩) (fun mo x nd hx => ?_)⟩
  · by_cases e : x = i
    · subst e; rw [OI]; simp
    · rw [OO x e]; exact m.nodup x
  · by_cases e : x = i
    · subst e
      rw [upd_same] at hx
      obtain rfl := Option.some.inj hx
      have hfree : ∀ b ∈ Own h L F x, SS k (upd h x (some (false, roifyL cs))) L F' w b := fun b hb =>
        ⟨(m.inB x b hb).elim (fun q => .inr (.inr q)) (fun q => .inr (.inl q)), Own.lt m hb, fun y hc => m.disj y x (hO y b hc).1 b (hO y b hc).2 hb⟩
      have hnn : roifyL cs ≠ [] → cs ≠ [] := roifyL_eq_nil
      refine ⟨hUi, us, h1, ?_, fun q => h3 (hnn q), fun _ => ⟨by simp [F', upd_same], fun q => hfree _ (by rw [own_ne hi (hnn q)]; simp)⟩⟩
      simp only [F', upd_same]
      by_cases hz : cs = []
      · subst hz; obtain ⟨rfl, _⟩ := rep_nil h2; exact .nil
      · exact h2.roify (fun b hb => (mo.1 b hb).1) (fun b hb => hfree b (by rw [own_ne hi hz]; simp [hb]))
    · rw [upd_other _ _ e] at hx
      exact m.keep mo hx (by simp [F', upd_other _ _ e]) (fun _ _ => rfl)
end

end Go.Proofs.Ytacfohamlkbpjaa
