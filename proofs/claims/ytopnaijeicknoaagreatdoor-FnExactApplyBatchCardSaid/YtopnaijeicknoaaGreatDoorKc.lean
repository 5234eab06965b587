/- The reading of code is sound. -/
import Derived.Test.YtopnaijeicknoaaGreatDoorKb
import Derived.ProofKit
import Derived.Carry
import Derived.SizedLaws
import Derived.HandedShaped
namespace Go.Proofs.YtopnaijeicknoaaGreatDoor

section
open Go Go.RowKit

section
variable {k : Base} {h : Nat → Option Node} {w : World} {L : Nat → Nat × Nat} {F : Nat → List Nat} {U : Nat → Prop} {P : Program}

/-- Where the nodes lie behind the call. -/
def aftL (L : Nat → Nat × Nat) (nid : Nat) (locs : Locs) (x : Nat) : Nat × Nat :=
  if nid ≤ x then match locs[x - nid]? with | some p => p.1 | none => L x else L x

def aftF (F : Nat → List Nat) (nid : Nat) (locs : Locs) (ow : List (Option Nat)) (Fo : Nat → List Nat) (x : Nat) : List Nat :=
  if nid ≤ x then match locs[x - nid]? with
    | some p => p.2.1
    | none => if some x ∈ ow then Fo (ow.idxOf (some x)) else F x
  else if some x ∈ ow then Fo (ow.idxOf (some x)) else F x

theorem flatMap_nodup_get : ∀ {locs : Locs}, locs.blocks.Nodup → ∀ (i : Nat) p, locs[i]? = some p → p.2.2.Nodup
  | [], _, i, p, h => by simp at h
  | q :: locs, hn, 0, p, h => by
    obtain rfl := Option.some.inj h
    simp only [Locs.blocks, List.flatMap_cons] at hn
    exact (List.nodup_append.1 hn).1
  | q :: locs, hn, i + 1, p, h => by
    simp only [Locs.blocks, List.flatMap_cons] at hn
    exact flatMap_nodup_get (locs := locs) (List.nodup_append.1 hn).2.1 i p h

theorem flatMap_nodup_disj : ∀ {locs : Locs}, locs.blocks.Nodup → ∀ (i j : Nat) p q, i ≠ j → locs[i]? = some p → locs[j]? = some q → ∀ b ∈ p.2.2, b ∉ q.2.2
  | [], _, i, j, p, q, _, h, _ => by simp at h
  | x :: locs, hn, i, j, p, q, hij, hp, hq => by
    intro b hb hc
    simp only [Locs.blocks, List.flatMap_cons] at hn
    obtain ⟨n1, n2, n3⟩ := List.nodup_append.1 hn
    cases i with
    | zero =>
      obtain rfl := Option.some.inj hp
      cases j with
      | zero => exact hij rfl
      | succ j => exact n3 b hb b (List.mem_flatMap.2 ⟨q, List.mem_of_getElem? (show locs[j]? = some q from hq), hc⟩) rfl
    | succ i =>
      cases j with
      | zero =>
        obtain rfl := Option.some.inj hq
        exact n3 b hc b (List.mem_flatMap.2 ⟨p, List.mem_of_getElem? (show locs[i]? = some p from hp), hb⟩) rfl
      | succ j => exact flatMap_nodup_disj (locs := locs) n2 i j p q (fun e => hij (by rw [e])) hp hq b hb hc

theorem mem_blocks {locs : Locs} {i : Nat} {p : (Nat × Nat) × List Nat × List Nat} (hp : locs[i]? = some p) {b : Nat} (hb : b ∈ p.2.2) : b ∈ locs.blocks :=
  List.mem_flatMap.2 ⟨p, List.mem_of_getElem? hp, hb⟩

theorem idx_of {ow : List (Option Nat)} {j x : Nat} (hn : (ow.filterMap (fun x => x)).Nodup) (hj : ow[j]? = some (some x)) : ow.idxOf (some x) = j := by
  have hm : some x ∈ ow := List.mem_of_getElem? hj
  have hi : ow[ow.idxOf (some x)]? = some (some x) := by
    rw [List.getElem?_eq_getElem (List.idxOf_lt_length_iff.2 hm)]
    simp
  have uniq : ∀ (o : List (Option Nat)) (i j : Nat), (o.filterMap (fun x => x)).Nodup → o[i]? = some (some x) → o[j]? = some (some x) → i = j := by
    intro o
    induction o with
    | nil => intro i j _ h1; simp at h1
    | cons a o ih =>
      intro i j hn h1 h2
      cases i with
      | zero =>
        cases j with
        | zero => rfl
        | succ j =>
          obtain rfl := Option.some.inj h1
          exact absurd (List.mem_of_getElem? (show o[j]? = some (some x) from h2)) (not_mem_of_nodup hn)
      | succ i =>
        cases j with
        | zero =>
          obtain rfl := Option.some.inj h2
          exact absurd (List.mem_of_getElem? (show o[i]? = some (some x) from h1)) (not_mem_of_nodup hn)
        | succ j => rw [ih i j (nodup_tail hn) h1 h2]
  exact uniq ow _ _ hn hi hj

/-- The memory behind a call. -/
theorem call_end (m : Mem k h w L F U) {sn : List Nat} {ow : List (Option Nat)} {vals : List (Bool × List Cell)} {outs : List (Option (List Cell))} {xs : List Value} {G : List Nat} {Fo : Nat → List Nat} {w' : World} {nid : Nat}
    (hnd : (ow.filterMap (fun x => x)).Nodup) (how : ∀ (j x : Nat), ow[j]? = some (some x) → ∃ cs, h x = some (true, cs))
    (hfr : ∀ j, j < 16 → h (nid + j) = none ∧ ¬ U (nid + j)) (hcnt : (ownsV vals).length ≤ 16) (hpure : sn = [] ∨ pureV vals outs = true)
    (fin : FinOK (callBase k h w L F sn ow) (callL L ow) vals outs xs G Fo w') :
    ∃ L' F' U', Mem k (ups h (backU ow outs ++ newU nid (ownsV vals))) w' L' F' U' ∧ Mono k h w L F U (ups h (backU ow outs ++ newU nid (ownsV vals))) w' L' F' U' ∧
      (∀ i, U' i → U i ∨ i ∈ (backU ow outs ++ newU nid (ownsV vals)).map (·.1)) ∧
      xs.length = (placeV nid vals).length ∧ ∀ (i : Nat) x v, xs[i]? = some x → (placeV nid vals)[i]? = some v → RV (SS k (ups h (backU ow outs ++ newU nid (ownsV vals))) L' F' w') U' L' w' x v := by
  obtain ⟨locs, eG, hlocs, hplace⟩ := placeV_rep fin.res nid
  have hll := hlocs.1
  let h' := ups h (backU ow outs ++ newU nid (ownsV vals))
  let L' := aftL L nid locs
  let F' := aftF F nid locs ow Fo
  let U' : Nat → Prop := fun i => U i ∨ (nid ≤ i ∧ i < nid + (ownsV vals).length)
  have hUn : ∀ i, U i → ¬ (nid ≤ i ∧ i < nid + (ownsV vals).length) := fun i hi hc => (hfr (i - nid) (by omega)).2 (by rw [show nid + (i - nid) = i by omega]; exact hi)
  have howU : ∀ (j x : Nat), ow[j]? = some (some x) → U x := fun j x hj => by obtain ⟨cs, hc⟩ := how j x hj; exact (m.node x _ hc).1
  have hout : ∀ x, ¬ (nid ≤ x ∧ x < nid + (ownsV vals).length) → h' x = ups h (backU ow outs) x := fun x hx => by
    show ups h (backU ow outs ++ newU nid (ownsV vals)) x = _
    rw [ups_append, newU_other (by omega)]
  have hnew : ∀ i c, (ownsV vals)[i]? = some c → h' (nid + i) = some (true, c) := fun i c hc => by
    show ups h (backU ow outs ++ newU nid (ownsV vals)) (nid + i) = _
    rw [ups_append]; exact newU_at hc
  have hsame : ∀ x, ¬ (nid ≤ x ∧ x < nid + (ownsV vals).length) → some x ∉ ow → h' x = h x := fun x hx hm => by rw [hout x hx, backU_other hm]
  have hback : ∀ j x, ow[j]? = some (some x) → h' x = (outs[j]?).join.map fun c => (true, c) := fun j x hj => by rw [hout x (hUn x (howU j x hj)), backU_at hnd hj]
  have eL : ∀ x, ¬ (nid ≤ x ∧ x < nid + (ownsV vals).length) → L' x = L x := fun x hx => by
    show aftL L nid locs x = L x
    unfold aftL
    split
    · rw [List.getElem?_eq_none (by omega)]
    · rfl
  have eLn : ∀ (i : Nat) p, locs[i]? = some p → L' (nid + i) = p.1 := fun i p hp => by
    show aftL L nid locs (nid + i) = p.1
    unfold aftL
    rw [if_pos (by omega), show nid + i - nid = i by omega, hp]
  have eFn : ∀ (i : Nat) p, locs[i]? = some p → F' (nid + i) = p.2.1 := fun i p hp => by
    show aftF F nid locs ow Fo (nid + i) = p.2.1
    unfold aftF
    rw [if_pos (by omega), show nid + i - nid = i by omega, hp]
  have eF0 : ∀ x, ¬ (nid ≤ x ∧ x < nid + (ownsV vals).length) → F' x = if some x ∈ ow then Fo (ow.idxOf (some x)) else F x := fun x hx => by
    show aftF F nid locs ow Fo x = _
    unfold aftF
    split
    · rw [List.getElem?_eq_none (by omega)]
    · rfl
  have eF : ∀ x, ¬ (nid ≤ x ∧ x < nid + (ownsV vals).length) → some x ∉ ow → F' x = F x := fun x hx hm => by rw [eF0 x hx, if_neg hm]
  have eFb : ∀ j x, ow[j]? = some (some x) → F' x = Fo j := fun j x hj => by rw [eF0 x (hUn x (howU j x hj)), if_pos (List.mem_of_getElem? hj), idx_of hnd hj]
  have cL : ∀ j x, ow[j]? = some (some x) → callL L ow j = L x := fun j x hj => by simp [callL, hj]
  -- what is owned behind the call
  have own : ∀ x, Own h' L' F' x = [] ∨ (∃ (i : Nat) (p : (Nat × Nat) × List Nat × List Nat), x = nid + i ∧ locs[i]? = some p ∧ Own h' L' F' x = p.2.2) ∨ (∃ (j : Nat) (c : List Cell), ow[j]? = some (some x) ∧ outs[j]? = some (some c) ∧ Own h' L' F' x = OutOwn (callL L ow) Fo outs j) ∨
      (¬ (nid ≤ x ∧ x < nid + (ownsV vals).length) ∧ some x ∉ ow ∧ Own h' L' F' x = Own h L F x) := by
    intro x
    by_cases hx : nid ≤ x ∧ x < nid + (ownsV vals).length
    · have hi : x - nid < (ownsV vals).length := by omega
      have hp : locs[x - nid]? = some (locs[x - nid]'(by omega)) := List.getElem?_eq_getElem _
      have hc : (ownsV vals)[x - nid]? = some ((ownsV vals)[x - nid]) := List.getElem?_eq_getElem hi
      have h1 := hnew _ _ hc
      have h2 := eLn _ _ hp
      have h3 := eFn _ _ hp
      have ex : nid + (x - nid) = x := by omega
      rw [ex] at h1 h2 h3
      exact .inr (.inl ⟨x - nid, _, ex.symm, hp, by rw [own_of h1, h2, h3]; exact (hlocs.2 _ _ _ hp hc).elim fun vs q => q.2.2.2.2.symm⟩)
    · by_cases hm : some x ∈ ow
      · obtain ⟨j, hj⟩ := List.getElem?_of_mem hm
        have hb := hback j x hj
        cases ho : outs[j]? with
        | none => left; rw [ho] at hb; simp at hb; simp [Own, hb]
        | some o =>
          cases o with
          | none => left; rw [ho] at hb; simp at hb; simp [Own, hb]
          | some c =>
            rw [ho] at hb
            simp at hb
            refine .inr (.inr (.inl ⟨j, c, hj, ho, ?_⟩))
            rw [own_of hb, eL x hx, eFb j x hj]
            simp [OutOwn, ho, cL j x hj]
      · refine .inr (.inr (.inr ⟨hx, hm, ?_⟩))
        simp only [Own, hsame x hx hm, eL x hx, eF x hx hm]
  have outJ : ∀ {x j c}, ow[j]? = some (some x) → outs[j]? = some (some c) → ∀ b ∈ OutOwn (callL L ow) Fo outs j, b ∉ G := fun {x j c} _ _ b hb => fin.disjG j b hb
  have inB0 : ∀ {b}, b ∈ (callBase k h w L F sn ow).B0 → ∃ (j id : Nat), ow[j]? = some (some id) ∧ b ∈ Own h L F id := by
    intro b hb
    obtain ⟨id, h1, h2⟩ := List.mem_flatMap.1 hb
    obtain ⟨o, h3, h4⟩ := List.mem_filterMap.1 h1
    obtain ⟨j, hj⟩ := List.getElem?_of_mem h3
    exact ⟨j, id, by rw [hj, ← h4]; rfl, h2⟩
  -- a block that comes back is owned by none of the others
  have keepO : ∀ x, some x ∉ ow → ∀ b ∈ Own h L F x, (w.heap.size ≤ b ∨ b ∈ (callBase k h w L F sn ow).B0) → False := fun x hx b hb hc => by
    rcases hc with hc | hc
    · have := Own.lt m hb; omega
    · obtain ⟨j, id, h1, h2⟩ := inB0 hc
      by_cases e : x = id
      · subst e; exact hx (List.mem_of_getElem? h1)
      · exact m.disj x id e b hb h2
  have hown : ∀ x, ∀ b ∈ Own h' L' F' x, (∃ j, b ∈ Own h L F j) ∨ w.heap.size ≤ b := by
    intro x b hb
    have conv : (w.heap.size ≤ b ∨ b ∈ (callBase k h w L F sn ow).B0) → (∃ j, b ∈ Own h L F j) ∨ w.heap.size ≤ b := fun hc => by
      rcases hc with hc | hc
      · exact .inr hc
      · obtain ⟨_, id, _, h2⟩ := inB0 hc; exact .inl ⟨id, h2⟩
    rcases own x with e | ⟨i, p, _, hp, e⟩ | ⟨j, c, h1, h2, e⟩ | ⟨_, _, e⟩
    · rw [e] at hb; cases hb
    · rw [e] at hb; exact conv (fin.inG b (by rw [eG]; exact mem_blocks hp hb))
    · rw [e] at hb; exact conv (fin.inO j b hb)
    · rw [e] at hb; exact .inl ⟨x, hb⟩
  have hnG : locs.blocks.Nodup := by rw [← eG]; exact fin.nodup
  have nodup : ∀ x, (Own h' L' F' x).Nodup := by
    intro x
    rcases own x with e | ⟨i, p, _, hp, e⟩ | ⟨j, c, h1, h2, e⟩ | ⟨_, _, e⟩
    · rw [e]; simp
    · rw [e]; exact flatMap_nodup_get hnG i p hp
    · rw [e]; exact fin.nodupO j
    · rw [e]; exact m.nodup x
  have disj : ∀ x y, x ≠ y → ∀ b ∈ Own h' L' F' x, b ∉ Own h' L' F' y := by
    intro x y hxy b hb hc
    rcases own x with e | ⟨i, p, ex, hp, e⟩ | ⟨j, c, h1, h2, e⟩ | ⟨_, hx2, e⟩
    · rw [e] at hb; cases hb
    · rw [e] at hb
      have hbG : b ∈ G := by rw [eG]; exact mem_blocks hp hb
      rcases own y with e' | ⟨i', p', ey, hp', e'⟩ | ⟨j', c', h1', h2', e'⟩ | ⟨_, hy2, e'⟩
      · rw [e'] at hc; cases hc
      · rw [e'] at hc; exact flatMap_nodup_disj hnG i i' p p' (fun q => hxy (by rw [ex, ey, q])) hp hp' b hb hc
      · rw [e'] at hc; exact fin.disjG j' b hc hbG
      · rw [e'] at hc; exact keepO y hy2 b hc (fin.inG b hbG)
    · rw [e] at hb
      rcases own y with e' | ⟨i', p', ey, hp', e'⟩ | ⟨j', c', h1', h2', e'⟩ | ⟨_, hy2, e'⟩
      · rw [e'] at hc; cases hc
      · rw [e'] at hc; exact fin.disjG j b hb (by rw [eG]; exact mem_blocks hp' hc)
      · rw [e'] at hc
        exact fin.disj j j' (fun q => hxy (by subst q; rw [h1] at h1'; exact Option.some.inj (Option.some.inj h1'))) b hb hc
      · rw [e'] at hc; exact keepO y hy2 b hc (fin.inO j b hb)
    · rw [e] at hb
      rcases own y with e' | ⟨i', p', ey, hp', e'⟩ | ⟨j', c', h1', h2', e'⟩ | ⟨_, hy2, e'⟩
      · rw [e'] at hc; cases hc
      · rw [e'] at hc; exact keepO x hx2 b hb (fin.inG b (by rw [eG]; exact mem_blocks hp' hc))
      · rw [e'] at hc; exact keepO x hx2 b hb (fin.inO j' b hc)
      · rw [e'] at hc; exact m.disj x y hxy b hb hc
  have hUL : ∀ i, U i → U' i ∧ L' i = L i := fun i hi => ⟨.inl hi, eL i (hUn i hi)⟩
  have hat : LocsAt nid locs U' L' := fun i p hp => ⟨.inr ⟨by omega, by have := (List.getElem?_eq_some_iff.1 hp).1; omega⟩, eLn i p hp⟩
  have hfin : ∀ b, sn = [] → FinS (callBase k h w L F sn ow) (callL L ow) outs G Fo w' b → SS k h' L' F' w' b := by
    intro b hsn hb
    refine ⟨?_, hb.2.1, fun x hx => ?_⟩
    · rcases hb.1 with h1 | h1 | h1
      · rcases h1 with h1 | ⟨id, hid, _⟩
        · exact h1.1
        · rw [hsn] at hid; cases hid
      · obtain ⟨_, id, _, h2⟩ := inB0 h1
        exact (m.inB id b h2).elim (fun q => .inr (.inr q)) (fun q => .inr (.inl q))
      · exact .inr (.inr (Nat.le_trans m.grows.1 h1))
    · rcases own x with e | ⟨i, p, _, hp, e⟩ | ⟨j, c, h1, h2, e⟩ | ⟨_, hx2, e⟩
      · rw [e] at hx; cases hx
      · rw [e] at hx; exact hb.2.2.1 (by rw [eG]; exact mem_blocks hp hx)
      · rw [e] at hx; exact hb.2.2.2 j hx
      · rw [e] at hx
        rcases hb.1 with h1 | h1 | h1
        · rcases h1 with h1 | ⟨id, hid, _⟩
          · exact h1.2.2 x hx
          · rw [hsn] at hid; cases hid
        · exact keepO x hx2 b hx (.inr h1)
        · exact keepO x hx2 b hx (.inl h1)
  obtain ⟨m', mo⟩ := m.master (h' := h') (w' := w') (L' := L') (F' := F') (U' := U') fin.grows fin.os fin.tape fin.output hown nodup disj
    (fun b hb hn => fin.frame b hb (fun hc => by obtain ⟨_, id, _, h2⟩ := inB0 hc; exact hn id h2)) hUL
    (fun mo x nd hx => by
      by_cases hxn : nid ≤ x ∧ x < nid + (ownsV vals).length
      · have hi : x - nid < (ownsV vals).length := by omega
        have hp : locs[x - nid]? = some (locs[x - nid]'(by omega)) := List.getElem?_eq_getElem _
        have hc : (ownsV vals)[x - nid]? = some ((ownsV vals)[x - nid]) := List.getElem?_eq_getElem hi
        have ex : nid + (x - nid) = x := by omega
        have h1 := hnew _ _ hc
        have h2 := eLn _ _ hp
        have h3 := eFn _ _ hp
        rw [ex] at h1 h2 h3
        rw [h1] at hx
        obtain rfl := Option.some.inj hx
        obtain ⟨vs, q1, q2, q3, q4, _⟩ := hlocs.2 _ _ _ hp hc
        rw [h2, h3]
        refine ⟨.inr hxn, vs, q1, ?_, q3, fun e => by cases e⟩
        rcases hpure with hsn | hpu
        · exact (rep_sub q2 (fun b => hfin b hsn)).free q4
        · have hall : ∀ (vs : List (Bool × List Cell)) (c : List Cell), vs.all (fun p => pureL p.2) = true → c ∈ ownsV vs → pureL c = true := by
            intro vs c
            induction vs with
            | nil => intro _ hm; cases hm
            | cons v vs ih =>
              intro ha hm
              simp only [List.all_cons, Bool.and_eq_true] at ha
              rcases List.mem_append.1 hm with hm | hm
              · have hl : ∀ (l : List Cell), pureL l = true → c ∈ ownsL l → pureL c = true := by
                  intro l
                  induction l with
                  | nil => intro _ hm; cases hm
                  | cons a l ihl =>
                    intro hp' hm'
                    simp only [pureL, Bool.and_eq_true] at hp'
                    cases a with
                    | sl o n s l' =>
                      cases o with
                      | true =>
                        rcases List.mem_cons.1 hm' with rfl | hm'
                        · simpa [Cell.pure] using hp'.1
                        · exact ihl hp'.2 hm'
                      | false => exact ihl hp'.2 hm'
                    | op l' =>
                      rcases List.mem_cons.1 hm' with rfl | hm'
                      · simpa [Cell.pure] using hp'.1
                      · exact ihl hp'.2 hm'
                    | _ => exact ihl hp'.2 hm'
                exact hl v.2 ha.1 hm
              · exact ih ha.2 hm
          have hv : vals.all (fun p => pureL p.2) = true := by unfold pureV at hpu; simp only [Bool.and_eq_true] at hpu; exact hpu.1
          exact (rep_pure q2 (hall vals _ hv (List.mem_of_getElem? hc)) _).free q4
      · by_cases hm : some x ∈ ow
        · obtain ⟨j, hj⟩ := List.getElem?_of_mem hm
          have hb := hback j x hj
          have hx' : h' x = some nd := hx
          rw [hb] at hx'
          cases ho : outs[j]? with
          | none => rw [ho] at hx'; simp at hx'
          | some o =>
            cases o with
            | none => rw [ho] at hx'; simp at hx'
            | some c =>
              rw [ho] at hx'
              simp at hx'
              subst hx'
              obtain ⟨us, q1, q2, q3, hcl⟩ := fin.back j c ho
              rw [cL j x hj] at q1 q3
              rw [eL x hxn, eFb j x hj]
              refine ⟨.inl (howU j x hj), us, q1, ?_, q3, fun e => by cases e⟩
              rcases hpure with hsn | hpu
              · exact (rep_sub q2 (fun b => hfin b hsn)).free hcl
              · have hv : pureL c = true := by
                  unfold pureV at hpu
                  simp only [Bool.and_eq_true] at hpu
                  exact List.all_eq_true.1 hpu.2 _ (List.mem_of_getElem? ho)
                exact (rep_pure q2 hv _).free hcl
        · have hx' : h' x = some nd := hx
          rw [hsame x hxn hm] at hx'
          refine m.keep mo hx' (eF x hxn hm) (fun b hb => ?_)
          exact fin.frame b (Own.lt m hb) (fun hc => keepO x hm b hb (.inr hc)))
  refine ⟨L', F', U', m', mo, fun i hi => hi.imp_right fun hc => ?_, ?_⟩
  · rw [List.map_append, List.mem_append]; right; exact newU_ids.2 hc
  · refine hplace _ U' L' ?_ hat
    rcases hpure with hsn | hpu
    · exact .inl (fun b => hfin b hsn)
    · right; unfold pureV at hpu; simp only [Bool.and_eq_true] at hpu; exact hpu.1
end
end

section
open Go Go.RowKit

section
variable {k : Base} {h : Nat → Option Node} {w : World} {L : Nat → Nat × Nat} {F : Nat → List Nat} {U : Nat → Prop} {P : Program}

theorem run_enter {f : FuncId} {args : Array Value} (hf : enterOK P f = true) : (callFunc f args).run P w = .ok (.enter f args) w := by
  unfold enterOK at hf
  split at hf
  · rename_i fn e
    simp only [Bool.and_eq_true, bne_iff_ne, ne_eq] at hf
    obtain ⟨h1, h2⟩ := hf
    cases hb : fn.body with
    | none => simp [hb] at h2
    | some c => simp [callFunc, go_sem, e, h1, hb]
  · cases hf

theorem rtv_pack {S U : Nat → Prop} {L : Nat → Nat × Nat} {w : World} {xs : List Value} {vs : List (Bool × List Cell)} (hl : xs.length = vs.length)
    (hr : ∀ (i : Nat) x v, xs[i]? = some x → vs[i]? = some v → RV S U L w x v) : RTV S U L w (packV xs) (resTV vs) := by
  match xs, vs, hl with
  | [], [], _ => exact ⟨#[], rfl, rfl, fun i y c h1 _ => by simp at h1⟩
  | [x], [(b, l)], _ => exact hr 0 x (b, l) rfl rfl
  | x :: y :: xs, v :: u :: vs, hl =>
    refine ⟨(x :: y :: xs).toArray, ?_, by simpa using hl, fun i z c h1 h2 => hr i z c (by simpa using h1) h2⟩
    simp [packV]

theorem fin_of {k : Base} {n : Nat} {L0 : Nat → Nat × Nat} {bd : Nat → Prop} {τ : St} {a : Act} : RSb k n L0 bd τ a w → ∃ L F U, Mem k τ.nd w L F U ∧ (∀ i, RTV (SS k τ.nd L F w) U L w (a.tmps.getD i undef) (τ.tv i)) ∧ (∀ i, U i → bd i) ∧ (∀ i, i < n → U i ∧ L i = L0 i) :=
  fun h => h.ex

theorem owns_ok {ms : List Mode} {tvs : List TV} {as : List Arg} {sn : List Nat} {ow : List (Option Nat)} (he : argsT h ms tvs = some (as, sn, ow)) :
    (∀ (j x : Nat), ow[j]? = some (some x) → ∃ cs, h x = some (true, cs)) := by
  intro j x hj
  obtain ⟨l1, _, l2, get, ext⟩ := argsT_get he
  have hlt : j < ow.length := (List.getElem?_eq_some_iff.1 hj).1
  by_cases hjt : j < tvs.length
  · have ha : as[j]? = some (as[j]'(by omega)) := List.getElem?_eq_getElem _
    have hx : tvs[j]? = some (tvs[j]'hjt) := List.getElem?_eq_getElem _
    rcases get j _ _ ha hx with ⟨m, i, o, h1, h2, _⟩ | ⟨_, _, _, _, _, _, _, _, h2, _⟩
    · rw [h2] at hj
      obtain rfl := Option.some.inj hj
      obtain ⟨_, _, _, cs, _, h3, _⟩ := argT_own h1
      exact ⟨cs, h3⟩
    · rw [h2] at hj; cases hj
  · obtain ⟨id, cs, _, h2, h3, _⟩ := ext j (by omega) (by omega)
    rw [h2] at hj
    obtain rfl := Option.some.inj (Option.some.inj hj)
    exact ⟨cs, h3⟩

theorem opCall_ok {nid : Nat} {ops : Array Oper} {i : Nat} {σ : St} {o : Oper} {f : FuncId} {xs : Array Operand} {tys : Array TypeId} {ms : List Mode} {as : List Arg} {sn : List Nat} {ow : List (Option Nat)} {vals : List (Bool × List Cell)} {outs : List (Option (List Cell))}
    (ho : ops[i]? = some o) (hg : guardT ops σ.t o = some true) (hop : o.op = .call ⟨.value (.func f), xs, tys⟩) (hen : enterOK P f = true)
    (hargs : argsT σ.nd ms (xs.toList.map (evT σ.t)) = some (as, sn, ow)) (hnd : (ow.filterMap id).Nodup) (hdis : ∀ x ∈ sn, some x ∉ ow)
    (hcall : CallOK P f as vals outs) (hpure : sn = [] ∨ pureV vals outs = true) (hcnt : (ownsV vals).length ≤ 16) :
    OpOK P nid ops i σ (resTV (placeV nid vals)) (backU ow outs ++ newU nid (ownsV vals)) := by
  intro k n L0 bd τ a w Q K hrs hag hfr hK
  obtain ⟨h1, h2⟩ := hag o ho
  obtain ⟨⟨L, F, U, m, ht, hU, hn⟩, hlen, hd⟩ := hrs
  have hg' := guard_wanted ht ((guardT_congr (t := σ.t) (t' := τ.t) h1).trans hg)
  have hev := ev_congr (t := σ.t) (t' := τ.t) h1
  have hxo : ∀ x ∈ xs.toList, x ∈ o.op.operands := fun x hx => by rw [hop]; simp [Op.operands, Call.operands]; right; simpa using hx
  have hargs' : argsT τ.nd ms (xs.toList.map (evT τ.t)) = some (as, sn, ow) := by
    rw [show xs.toList.map (evT τ.t) = xs.toList.map (evT σ.t) from List.map_congr_left fun x hx => hev x (hxo x hx)]
    rw [argsT_local (h := τ.nd) (h' := σ.nd) (fun t htm j hj => ?_)]
    · exact hargs
    · obtain ⟨x, hx, rfl⟩ := List.mem_map.1 htm
      exact h2 j (by simp only [nodesR, List.mem_flatMap]; exact ⟨x, by rw [hop]; have := hxo x hx; rw [hop] at this; simpa [opN] using this, hj⟩)
  have hidf : ow.filterMap (fun x => x) = ow.filterMap id := rfl
  have hst := call_start m (xs := (xs.map a.eval).toList) hargs' hnd hdis (by simp) (fun j x t hx ht' => by
    simp only [Array.toList_map, List.getElem?_map] at hx ht'
    cases hq : xs.toList[j]? with
    | none => rw [hq] at hx; simp at hx
    | some q =>
      rw [hq] at hx ht'
      obtain rfl := Option.some.inj hx
      obtain rfl := Option.some.inj ht'
      exact evT_rtv ht q)
  obtain ⟨s1, s2⟩ := hst
  have hsz : (xs.map a.eval).size ≤ as.length ∧ (noEx as = true → (xs.map a.eval).size = as.length) := by
    have h1 := (argsT_get hargs').1
    have h2 := (argsT_get hargs').2.1
    simp at h1 h2; simp; exact ⟨h1, h2⟩
  have hc := hcall (callBase k τ.nd w L F sn ow) (callL L ow) (callF F ow) (xs.map a.eval) hsz s1 (by
    intro i; have := s2 i; show RTV (SS (callBase k τ.nd w L F sn ow) _ _ _ w) _ _ w _ _; simpa using this)
  simp only [wpOp, ho, hg', if_true]
  left
  unfold Oper.wp
  have hrun : execOp a.eval o = callFunc f (#[] ++ xs.map a.eval ++ #[]) := by
    obtain ⟨dst, op, ty, pos, after, guard⟩ := o
    simp only at hop
    subst hop
    rfl
  have hrun' : (execOp a.eval o).run P w = .ok (.enter f (xs.map a.eval)) w := by
    rw [hrun, run_enter hen]; simp
  rw [hrun', Oper.upon_enter]
  refine hc.mono fun e w' he => ?_
  obtain ⟨v, rfl, ys, G, Fo, rfl, fin⟩ := he
  have hUn : ∀ j, j < 16 → τ.nd (nid + j) = none ∧ ¬ U (nid + j) := fun j hj => ⟨(hfr j hj).1, fun hu => (hfr j hj).2 (hU _ hu)⟩
  obtain ⟨L', F', U', m', mo, hU', hl, hv⟩ := call_end m (nid := nid) hnd (owns_ok hargs') hUn hcnt hpure fin
  refine hK _ _ ?_
  rw [ho]
  exact app_rsb hlen hd ht hn m' mo (rtv_pack hl hv) (fun i hi => (hU' i hi).imp (hU i) id)
end
end

section
open Go Go.RowKit

def dstOf (ops : Array Oper) (i : Nat) : Option Nat := (ops[i]?).bind (·.dst)

abbrev PU := (TV × Upds) × Nat
def stepP (ops : Array Oper) (σ : St) (p : PU) : St := σ.app (dstOf ops p.2) p.1.1 p.1.2
def foldP (ops : Array Oper) (ps : List PU) (σ : St) : St := ps.foldl (stepP ops) σ

theorem foldP_append (ops : Array Oper) (a b : List PU) (σ : St) : foldP ops (a ++ b) σ = foldP ops b (foldP ops a σ) := by simp [foldP]

/-- All operations of a list, one behind the other. -/
def OpsOK (P : Program) (base : Option Nat) (ops : Array Oper) : List Nat → St → St → List (TV × Upds) → Prop
  | [], σ, σ', us => σ' = σ ∧ us = []
  | i :: is, σ, σ', u :: us => OpOK P (nidOf base σ i) ops i σ u.1 u.2 ∧ OpsOK P base ops is (σ.app (dstOf ops i) u.1 u.2) σ' us
  | _ :: _, _, _, [] => False

theorem opsOK_get {P : Program} {base : Option Nat} {ops : Array Oper} : ∀ {m i0 : Nat} {σ σ' : St} {us : List (TV × Upds)}, OpsOK P base ops (List.range' i0 m) σ σ' us →
    us.length = m ∧ σ' = foldP ops (us.zipIdx i0) σ ∧
    ∀ (j : Nat) (u : TV × Upds), us[j]? = some u → OpOK P (nidOf base (foldP ops ((us.zipIdx i0).take j) σ) (i0 + j)) ops (i0 + j) (foldP ops ((us.zipIdx i0).take j) σ) u.1 u.2
  | 0, i0, σ, σ', us, h => by
    obtain ⟨rfl, rfl⟩ := h
    exact ⟨rfl, rfl, fun j u hu => by simp at hu⟩
  | m + 1, i0, σ, σ', [], h => h.elim
  | m + 1, i0, σ, σ', u :: us, h => by
    obtain ⟨h1, h2⟩ := h
    obtain ⟨g1, g2, g3⟩ := opsOK_get (m := m) (i0 := i0 + 1) h2
    refine ⟨by simp [g1], by rw [g2]; simp [foldP, List.zipIdx_cons, stepP], fun j v hv => ?_⟩
    cases j with
    | zero => obtain rfl := Option.some.inj hv; exact h1
    | succ j =>
      have := g3 j v hv
      rw [show i0 + (j + 1) = i0 + 1 + j by omega]
      simpa [foldP, List.zipIdx_cons, stepP] using this

theorem statesT_get {ops : Array Oper} : ∀ {us : List (TV × Upds)} {σ : St} {i0 j : Nat} {d : St}, j < us.length → (statesT ops σ us i0).getD j d = foldP ops ((us.zipIdx i0).take j) σ
  | [], _, _, _, _, h => by simp at h
  | u :: us, σ, i0, 0, d, _ => by simp [statesT, foldP]
  | u :: us, σ, i0, j + 1, d, h => by
    have := statesT_get (ops := ops) (us := us) (σ := σ.app ((ops[i0]?).bind (·.dst)) u.1 u.2) (i0 := i0 + 1) (j := j) (d := d) (by simpa using h)
    simp only [statesT, List.getD_cons_succ, List.zipIdx_cons, List.take_succ_cons]
    rw [this]
    simp [foldP, stepP, dstOf]

/-! ### What agrees -/
theorem ups_skip {h : Nat → Option Node} {l : Upds} {x : Nat} (hx : x ∉ l.map (·.1)) : ups h l x = h x := by
  induction l generalizing h with
  | nil => rfl
  | cons p l ih =>
    simp only [List.map_cons, List.mem_cons, not_or] at hx
    show ups (upd h p.1 p.2) l x = h x
    rw [ih hx.2, upd_other _ _ hx.1]

theorem ups_congr {h h' : Nat → Option Node} {l : Upds} {x : Nat} (hx : h x = h' x) : ups h l x = ups h' l x := by
  induction l generalizing h h' with
  | nil => exact hx
  | cons p l ih =>
    show ups (upd h p.1 p.2) l x = ups (upd h' p.1 p.2) l x
    refine ih ?_
    unfold upd
    split
    · rfl
    · exact hx

theorem tv_app_ne {σ : St} {d : Option Nat} {r : TV} {l : Upds} {t : Nat} (h : d ≠ some t) : (σ.app d r l).tv t = σ.tv t := by
  rcases tv_app σ d r l t with e | ⟨e, _⟩
  · exact e
  · exact absurd e h

theorem tv_app_congr {σ τ : St} {d : Option Nat} {r : TV} {l l' : Upds} {t : Nat} (h : σ.tv t = τ.tv t) (hl : σ.t.length = τ.t.length) : (σ.app d r l).tv t = (τ.app d r l').tv t := by
  unfold St.app St.tv setT
  cases d with
  | none => exact h
  | some d =>
    show (σ.t.set d r).getD t _ = (τ.t.set d r).getD t _
    unfold St.tv at h
    simp only [List.getD_eq_getElem?_getD, List.getElem?_set] at h ⊢
    split
    · rw [hl]
    · exact h

def Wt (ops : Array Oper) (t : Nat) (p : PU) : Bool := dstOf ops p.2 == some t
def Wn (x : Nat) (p : PU) : Bool := (p.1.2.map (·.1)).contains x

theorem foldP_len (ops : Array Oper) : ∀ (ps : List PU) (σ : St), (foldP ops ps σ).t.length = σ.t.length
  | [], _ => rfl
  | p :: ps, σ => by
    show (foldP ops ps (stepP ops σ p)).t.length = _
    rw [foldP_len ops ps]; exact tv_app_len ..

theorem tv_fold (ops : Array Oper) (t : Nat) : ∀ (ps : List PU) (σ τ : St), σ.tv t = τ.tv t → σ.t.length = τ.t.length → (foldP ops ps σ).tv t = (foldP ops (ps.filter (Wt ops t)) τ).tv t
  | [], _, _, h, _ => h
  | p :: ps, σ, τ, h, hl => by
    show (foldP ops ps (stepP ops σ p)).tv t = _
    by_cases hw : Wt ops t p = true
    · rw [List.filter_cons_of_pos hw]
      show _ = (foldP ops _ (stepP ops τ p)).tv t
      exact tv_fold ops t ps _ _ (tv_app_congr h hl) (by rw [stepP, stepP, tv_app_len, tv_app_len, hl])
    · rw [List.filter_cons_of_neg hw]
      refine tv_fold ops t ps _ _ ?_ (by rw [stepP, tv_app_len, hl])
      rw [stepP, tv_app_ne (fun e => hw (by simp [Wt, e]))]
      exact h

theorem nd_fold (ops : Array Oper) (x : Nat) : ∀ (ps : List PU) (σ τ : St), σ.nd x = τ.nd x → (foldP ops ps σ).nd x = (foldP ops (ps.filter (Wn x)) τ).nd x
  | [], _, _, h => h
  | p :: ps, σ, τ, h => by
    show (foldP ops ps (stepP ops σ p)).nd x = _
    by_cases hw : Wn x p = true
    · rw [List.filter_cons_of_pos hw]
      show _ = (foldP ops _ (stepP ops τ p)).nd x
      exact nd_fold ops x ps _ _ (by rw [stepP, stepP, nd_app, nd_app]; exact ups_congr h)
    · rw [List.filter_cons_of_neg hw]
      refine nd_fold ops x ps _ _ ?_
      rw [stepP, nd_app, ups_skip (fun hc => hw (by unfold Wn; exact List.contains_iff_mem.2 hc))]
      exact h

theorem tv_fold' (ops : Array Oper) (t : Nat) {ps qs : List PU} (σ : St) (h : ps.filter (Wt ops t) = qs.filter (Wt ops t)) : (foldP ops ps σ).tv t = (foldP ops qs σ).tv t := by
  rw [tv_fold ops t ps σ σ rfl rfl, tv_fold ops t qs σ σ rfl rfl, h]

theorem nd_fold' (ops : Array Oper) (x : Nat) {ps qs : List PU} (σ : St) (h : ps.filter (Wn x) = qs.filter (Wn x)) : (foldP ops ps σ).nd x = (foldP ops qs σ).nd x := by
  rw [nd_fold ops x ps σ σ rfl, nd_fold ops x qs σ σ rfl, h]

theorem RSb.congr {k : Base} {n : Nat} {L0 : Nat → Nat × Nat} {bd bd' : Nat → Prop} {σ τ : St} {a : Act} {w : World} (h : RSb k n L0 bd σ a w) (ht : ∀ t, τ.tv t = σ.tv t) (hn : ∀ x, τ.nd x = σ.nd x) (hl : τ.t.length = σ.t.length) (hb : ∀ i, bd i → bd' i) :
    RSb k n L0 bd' τ a w := by
  obtain ⟨⟨L, F, U, m, h1, h2, h3⟩, h4, h5⟩ := h
  have e : τ.nd = σ.nd := funext hn
  exact ⟨⟨L, F, U, by rw [e]; exact m, fun i => by rw [e, ht]; exact h1 i, fun i hi => hb i (h2 i hi), h3⟩, by rw [hl]; exact h4, h5⟩

theorem foldl_h (l : Upds) (h : List (Option Node)) : h.length ≤ (l.foldl (fun h p => setH h p.1 p.2) h).length := (foldl_length l h).1

theorem app_h (σ : St) (d : Option Nat) (r : TV) (l : Upds) : σ.h.length ≤ (σ.app d r l).h.length ∧ ∀ x ∈ l.map (·.1), x < (σ.app d r l).h.length := by
  obtain ⟨h1, h2⟩ := foldl_length l σ.h
  refine ⟨h1, fun x hx => ?_⟩
  obtain ⟨p, hp, rfl⟩ := List.mem_map.1 hx
  exact h2 p hp

theorem foldP_h (ops : Array Oper) : ∀ (ps : List PU) (σ : St), σ.h.length ≤ (foldP ops ps σ).h.length ∧ ∀ p ∈ ps, ∀ x ∈ p.1.2.map (·.1), x < (foldP ops ps σ).h.length
  | [], σ => ⟨Nat.le_refl _, fun p hp => by cases hp⟩
  | p :: ps, σ => by
    obtain ⟨h1, h2⟩ := foldP_h ops ps (stepP ops σ p)
    obtain ⟨h3, h4⟩ := app_h σ (dstOf ops p.2) p.1.1 p.1.2
    refine ⟨Nat.le_trans h3 h1, fun q hq x hx => ?_⟩
    rcases List.mem_cons.1 hq with rfl | hq
    · exact Nat.lt_of_lt_of_le (h4 x hx) h1
    · exact h2 q hq x hx

section
variable {P : Program} {k : Base} {n : Nat} {L0 : Nat → Nat × Nat}

/-- One behind the other. -/
theorem ops_text {ops : Array Oper} {Q : Exit → Act → World → Prop} {σ' : St} (hQ : ∀ a' w', RS k n L0 σ' a' w' → Q .normal a' w') : ∀ {is : List Nat} {σ : St} {us : List (TV × Upds)} {a : Act} {w : World},
    OpsOK P none ops is σ σ' us → RS k n L0 σ a w → wpOps P ops Q is a w
  | [], σ, us, a, w, h, hrs => by
    obtain ⟨rfl, _⟩ := h
    exact hQ _ _ hrs
  | i :: is, σ, [], a, w, h, _ => h.elim
  | i :: is, σ, u :: us, a, w, h, hrs => by
    obtain ⟨h1, h2⟩ := h
    rw [wpOps_cons]
    refine h1 k n L0 _ σ a w Q _ hrs (fun o _ => ⟨fun _ _ => rfl, fun _ _ => rfl⟩) (fun j _ => ⟨nd_none (by show σ.h.length ≤ σ.h.length + j; omega), by show ¬ (σ.h.length + j < σ.h.length); omega⟩) (fun a' w' h' => ?_)
    refine ops_text hQ h2 ?_
    obtain ⟨g1, g2⟩ := app_h σ (dstOf ops i) u.1 u.2
    exact h'.congr (fun _ => rfl) (fun _ => rfl) rfl (fun x hx => hx.elim (fun q => Nat.lt_of_lt_of_le q g1) (g2 x))

/-- The same, with steps between that the machine does not notice. -/
def RegOK (P : Program) (n : Nat) (ops : Array Oper) (is : List Nat) (σ σ' : St) : Prop :=
  ∀ (k : Base) (L0 : Nat → Nat × Nat) (a : Act) (w : World) (Q : Exit → Act → World → Prop), RS k n L0 σ a w → (∀ a' w', RS k n L0 σ' a' w' → Q .normal a' w') → wpOps P ops Q is a w
theorem reg_cons {ops : Array Oper} {i : Nat} {is : List Nat} {σ σ' : St} {r : TV} {l : Upds} (h1 : OpOK P σ.h.length ops i σ r l) (h2 : RegOK P n ops is (σ.app (dstOf ops i) r l) σ') : RegOK P n ops (i :: is) σ σ' := fun k L0 a w Q hrs hQ => by
  rw [wpOps_cons]
  refine h1 k n L0 _ σ a w Q _ hrs (fun o _ => ⟨fun _ _ => rfl, fun _ _ => rfl⟩) (fun j _ => ⟨nd_none (by show σ.h.length ≤ σ.h.length + j; omega), by show ¬ (σ.h.length + j < σ.h.length); omega⟩) (fun a' w' h' => ?_)
  refine h2 k L0 a' w' Q ?_ hQ
  obtain ⟨g1, g2⟩ := app_h σ (dstOf ops i) r l
  exact h'.congr (fun _ => rfl) (fun _ => rfl) rfl (fun x hx => hx.elim (fun q => Nat.lt_of_lt_of_le q g1) (g2 x))
end
end

section
open Go Go.RowKit

section
variable {P : Program} {k : Base} {n : Nat} {L0 : Nat → Nat × Nat}

def lst (listed : Array Bool) (p : PU) : Bool := listed.getD p.2 false

/-- The state when the listed are done. -/
def tau (ops : Array Oper) (us : List (TV × Upds)) (σ : St) (listed : Array Bool) : St := foldP ops (us.zipIdx.filter (lst listed)) σ

def bdL (B : Nat) (us : List (TV × Upds)) (listed : Array Bool) (x : Nat) : Prop := x < B ∨ ∃ p ∈ us.zipIdx.filter (lst listed), x ∈ p.1.2.map (·.1)

theorem zip_get {us : List (TV × Upds)} {p : PU} (h : p ∈ us.zipIdx) : us[p.2]? = some p.1 := by
  obtain ⟨u, i⟩ := p
  exact List.mem_zipIdx_iff_getElem?.1 h

theorem zip_split {us : List (TV × Upds)} {i : Nat} {u : TV × Upds} (h : us[i]? = some u) : us.zipIdx = us.zipIdx.take i ++ (u, i) :: us.zipIdx.drop (i + 1) := by
  have h' : us.zipIdx[i]? = some (u, i) := by rw [List.getElem?_zipIdx, h]; simp
  obtain ⟨hlt, he⟩ := List.getElem?_eq_some_iff.1 h'
  rw [← he, List.getElem_cons_drop, List.take_append_drop]

theorem zip_lt {us : List (TV × Upds)} {i : Nat} {p : PU} (h : p ∈ us.zipIdx.take i) : p.2 < i := by
  obtain ⟨j, hj⟩ := List.getElem?_of_mem h
  rw [List.getElem?_take] at hj
  split at hj
  · rw [List.getElem?_zipIdx] at hj
    cases hq : us[j]? with
    | none => rw [hq] at hj; simp at hj
    | some q => rw [hq] at hj; simp at hj; rw [← hj]; simpa
  · cases hj

theorem zip_gt {us : List (TV × Upds)} {i : Nat} {p : PU} (h : p ∈ us.zipIdx.drop (i + 1)) : i < p.2 := by
  obtain ⟨j, hj⟩ := List.getElem?_of_mem h
  rw [List.getElem?_drop, List.getElem?_zipIdx] at hj
  cases hq : us[i + 1 + j]? with
  | none => rw [hq] at hj; simp at hj
  | some q => rw [hq] at hj; simp at hj; rw [← hj]; simp; omega

theorem filter_off {α : Type} {l : List α} {f : α → Bool} (h : ∀ x ∈ l, f x = false) : l.filter f = [] := List.filter_eq_nil_iff.2 fun x hx => by simp [h x hx]

/-- What the listed do of a kind is what is done of it before `i`. -/
theorem kind_before {us : List (TV × Upds)} {i : Nat} {u : TV × Upds} {listed : Array Bool} (hi : us[i]? = some u) (hl : listed.getD i false = false) (g : PU → Bool)
    (h1 : ∀ p ∈ us.zipIdx, p.2 < i → g p = true → listed.getD p.2 false = true) (h2 : ∀ p ∈ us.zipIdx, i < p.2 → g p = true → listed.getD p.2 false = false) :
    (us.zipIdx.filter (lst listed)).filter g = (us.zipIdx.take i).filter g := by
  conv => lhs; rw [zip_split hi]
  have e1 : (us.zipIdx.drop (i + 1)).filter (fun a => g a && lst listed a) = [] := filter_off fun p hp => by
    have hm := List.mem_of_mem_drop hp
    cases hg : g p with
    | false => rfl
    | true => simp [lst, h2 p hm (zip_gt hp) hg]
  have e2 : (us.zipIdx.take i).filter (fun a => g a && lst listed a) = (us.zipIdx.take i).filter g := List.filter_congr fun p hp => by
    have hm := List.mem_of_mem_take hp
    cases hg : g p with
    | false => rfl
    | true => simp [lst, h1 p hm (zip_lt hp) hg]
  rw [List.filter_filter, List.filter_append, List.filter_cons_of_neg (by simp only [lst, Bool.and_eq_true, not_and]; intro _; simp only [hl]; decide), e1, e2, List.append_nil]

theorem getD_set {listed : Array Bool} {i j : Nat} (hi : i < listed.size) : (listed.setIfInBounds i true).getD j false = if j = i then true else listed.getD j false := by
  by_cases e : j = i
  · subst e; simp [Array.getD_eq_getD_getElem?, hi]
  · rw [if_neg e]
    simp only [Array.getD_eq_getD_getElem?, Array.getElem?_setIfInBounds]
    rw [if_neg (fun q => e q.symm)]

/-- One more is done: where in the row it stands is all one. -/
theorem kind_more {us : List (TV × Upds)} {i : Nat} {u : TV × Upds} {listed : Array Bool} (hi : us[i]? = some u) (hsz : i < listed.size) (hl : listed.getD i false = false) (g : PU → Bool)
    (h2 : g (u, i) = true → ∀ p ∈ us.zipIdx, i < p.2 → g p = true → listed.getD p.2 false = false) :
    (us.zipIdx.filter (lst (listed.setIfInBounds i true))).filter g = (us.zipIdx.filter (lst listed) ++ [(u, i)]).filter g := by
  have hs := zip_split hi
  have off : ∀ q ∈ us.zipIdx.take i, lst (listed.setIfInBounds i true) q = lst listed q := fun q hq => by
    have := zip_lt hq
    unfold lst; rw [getD_set hsz, if_neg (by omega)]
  have off2 : ∀ q ∈ us.zipIdx.drop (i + 1), lst (listed.setIfInBounds i true) q = lst listed q := fun q hq => by
    have := zip_gt hq
    unfold lst; rw [getD_set hsz, if_neg (by omega)]
  have e1 : us.zipIdx.filter (lst (listed.setIfInBounds i true)) = (us.zipIdx.take i).filter (lst listed) ++ (u, i) :: (us.zipIdx.drop (i + 1)).filter (lst listed) := by
    conv => lhs; rw [hs]
    rw [List.filter_append, List.filter_cons_of_pos (by unfold lst; rw [getD_set hsz]; simp), List.filter_congr off, List.filter_congr off2]
  have e2 : us.zipIdx.filter (lst listed) = (us.zipIdx.take i).filter (lst listed) ++ (us.zipIdx.drop (i + 1)).filter (lst listed) := by
    conv => lhs; rw [hs]
    rw [List.filter_append, List.filter_cons_of_neg (by simp only [lst]; rw [hl]; decide)]
  rw [e1, e2]
  simp only [List.filter_append, List.filter_cons, List.filter_nil]
  by_cases hg : g (u, i) = true
  · have e3 : ((us.zipIdx.drop (i + 1)).filter (lst listed)).filter g = [] := by
      rw [List.filter_filter]
      refine filter_off fun p hp => ?_
      have hm := List.mem_of_mem_drop hp
      cases hgp : g p with
      | false => rfl
      | true => simp [lst, h2 hg p hm (zip_gt hp) hgp]
    rw [e3]; simp
  · simp [hg]

theorem bef_closed {ops : Array Oper} {listed : Array Bool} (hc : ∀ i o e, ops[i]? = some o → e ∈ o.after → Region.binds .any e = true → listed.getD i false = true → listed.getD e.on false = true) :
    ∀ {d i j : Nat}, befT ops d i j = true → listed.getD j false = true → listed.getD i false = true
  | 0, _, _, h, _ => by simp [befT] at h
  | d + 1, i, j, h, hj => by
    unfold befT at h
    split at h
    · rename_i o ho
      simp only [Bool.or_eq_true, List.any_eq_true, Bool.and_eq_true, beq_iff_eq] at h
      rcases h with ⟨e, he, hb, rfl⟩ | ⟨e, he, hb, h⟩
      · exact hc j o e ho (by simpa using he) hb hj
      · exact bef_closed hc h (hc j o e ho (by simpa using he) hb hj)
    · cases h

theorem bef_ready {ops : Array Oper} {listed : Array Bool} (hc : ∀ i o e, ops[i]? = some o → e ∈ o.after → Region.binds .any e = true → listed.getD i false = true → listed.getD e.on false = true)
    {d i j : Nat} (h : befT ops d i j = true) {o : Oper} (ho : ops[j]? = some o) (hr : ∀ e ∈ o.after, Region.binds .any e = true → listed.getD e.on false = true) : listed.getD i false = true := by
  cases d with
  | zero => simp [befT] at h
  | succ d =>
    simp only [befT, ho, Bool.or_eq_true, List.any_eq_true, Bool.and_eq_true, beq_iff_eq] at h
    rcases h with ⟨e, he, hb, rfl⟩ | ⟨e, he, hb, h⟩
    · exact hr e (by simpa using he) hb
    · exact bef_closed hc h (hr e (by simpa using he) hb)

theorem apart_tw {a b : FP} (h : a.apart b = true) : (∀ x ∈ a.tw, x ∉ b.tr ∧ x ∉ b.tw) ∧ (∀ x ∈ a.tr, x ∉ b.tw) ∧ (∀ x ∈ a.nw, x ∉ b.nr ∧ x ∉ b.nw) ∧ (∀ x ∈ a.nr, x ∉ b.nw) := by
  simp only [FP.apart, Bool.and_eq_true, List.all_eq_true, Bool.not_eq_true'] at h
  obtain ⟨⟨⟨h1, h2⟩, h3⟩, h4⟩ := h
  have nc : ∀ {l : List Nat} {x : Nat}, l.contains x = false → x ∉ l := fun h hm => by rw [List.contains_iff_mem.2 hm] at h; cases h
  exact ⟨fun x hx => ⟨nc (h1 x hx).1, nc (h1 x hx).2⟩, fun x hx => nc (h2 x hx), fun x hx => ⟨nc (h3 x hx).1, nc (h3 x hx).2⟩, fun x hx => nc (h4 x hx)⟩

theorem fps_get {ops : Array Oper} {σ : St} {us : List (TV × Upds)} {i : Nat} {u : TV × Upds} (h : us[i]? = some u) (d : FP) : (fpsT ops σ us).getD i d = fpT ops (foldP ops (us.zipIdx.take i) σ) i u := by
  have hlt := (List.getElem?_eq_some_iff.1 h).1
  unfold fpsT
  rw [List.getD_eq_getElem?_getD, List.getElem?_map, List.getElem?_range hlt]
  show fpT ops ((statesT ops σ us 0).getD i _) i (us.getD i _) = _
  rw [statesT_get hlt]
  simp [h]

/-- What is asked of a region that runs in any order. -/
structure AnyOK (P : Program) (ops : Array Oper) (σ : St) (us : List (TV × Upds)) (depth : Nat) : Prop where
  len : us.length = ops.size
  op : ∀ (j : Nat) (u : TV × Upds), us[j]? = some u → OpOK P (σ.h.length + 16 * j) ops j (foldP ops (us.zipIdx.take j) σ) u.1 u.2
  order : orderOK ops depth (fpsT ops σ us) = true
  ids : idsOK ops depth σ.h.length us = true
  after : afterOK ops = true

variable {ops : Array Oper} {σ : St} {us : List (TV × Upds)} {depth : Nat} {Q : Exit → Act → World → Prop}

theorem AnyOK.pair (h : AnyOK P ops σ us depth) {i j : Nat} {u v : TV × Upds} (hij : i < j) (hi : us[i]? = some u) (hj : us[j]? = some v) :
    (fpT ops (foldP ops (us.zipIdx.take i) σ) i u).apart (fpT ops (foldP ops (us.zipIdx.take j) σ) j v) = true ∨ befT ops depth i j = true := by
  have ho := h.order
  have hjl := (List.getElem?_eq_some_iff.1 hj).1
  simp only [orderOK, List.all_eq_true, List.mem_range, Bool.or_eq_true] at ho
  have hlen : (fpsT ops σ us).length = us.length := by simp [fpsT]
  have := ho j (by omega) i hij
  rwa [fps_get hi, fps_get hj] at this

theorem AnyOK.id (h : AnyOK P ops σ us depth) {p : PU} (hp : p ∈ us.zipIdx) {x : Nat} (hx : x ∈ p.1.2.map (·.1)) :
    x < σ.h.length ∨ (x - σ.h.length) / 16 = p.2 ∨ befT ops depth ((x - σ.h.length) / 16) p.2 = true := by
  have hi := h.ids
  simp only [idsOK, List.all_eq_true, Bool.or_eq_true, decide_eq_true_eq, beq_iff_eq] at hi
  obtain ⟨q, hq, rfl⟩ := List.mem_map.1 hx
  rcases hi p hp q hq with (h1 | h1) | h1
  · exact .inl h1
  · exact .inr (.inl h1)
  · exact .inr (.inr h1)

theorem mem_ready {md : Region.Mode} {listed : Array Bool} {i : Nat} (h : i ∈ Region.ready md ops listed) :
    listed.getD i true = false ∧ ∃ o, ops[i]? = some o ∧ ∀ e ∈ o.after, Region.binds md e = true → listed.getD e.on false = true := by
  unfold Region.ready at h
  obtain ⟨h1, h2⟩ := List.mem_filter.1 h
  simp only [Bool.and_eq_true, Bool.not_eq_true'] at h2
  obtain ⟨h3, h4⟩ := h2
  refine ⟨h3, ?_⟩
  cases ho : ops[i]? with
  | none => rw [ho] at h4; simp at h4
  | some o =>
    rw [ho] at h4
    simp only [Option.map_some, Option.getD_some, Array.all_eq_true_iff_forall_mem, Bool.or_eq_true, Bool.not_eq_true'] at h4
    refine ⟨o, rfl, fun e he hb => ?_⟩
    rcases h4 e he with h5 | h5
    · rw [hb] at h5; cases h5
    · exact h5

theorem all_listed (h : AnyOK P ops σ us depth) {listed : Array Bool} (hs : listed.size = ops.size) (hr : Region.ready .any ops listed = []) : ∀ i, i < ops.size → listed.getD i false = true := by
  intro i
  induction i using Nat.strongRecOn with
  | _ i ih =>
    intro hi
    cases hl : listed.getD i false with
    | true => rfl
    | false =>
      exfalso
      have hm : i ∈ Region.ready .any ops listed := by
        unfold Region.ready
        refine List.mem_filter.2 ⟨List.mem_range.2 hi, ?_⟩
        have ho : ops[i]? = some ops[i] := Array.getElem?_eq_getElem hi
        have ha := h.after
        simp only [afterOK, List.all_eq_true, List.mem_range] at ha
        have hai := ha i hi
        rw [ho] at hai
        simp only [List.all_eq_true, Bool.or_eq_true, Bool.not_eq_true', decide_eq_true_eq] at hai
        have hl' : listed.getD i true = false := by
          rw [Array.getD_eq_getD_getElem?] at hl ⊢
          rw [Array.getElem?_eq_getElem (by omega)] at hl ⊢
          exact hl
        rw [hl', ho]
        simp only [Bool.not_false, Bool.true_and, Option.map_some, Option.getD_some, Array.all_eq_true_iff_forall_mem, Bool.or_eq_true, Bool.not_eq_true']
        intro e he
        rcases hai e (by simpa using he) with h5 | h5
        · exact .inl h5
        · exact .inr (ih e.on h5 (by omega))
      rw [hr] at hm; cases hm

theorem count_one {i : Nat} {f : Nat → Bool} (hf : f i = true) : ∀ {l : List Nat}, l.Nodup → i ∈ l → (l.filter fun j => f j && j != i).length + 1 = (l.filter f).length
  | [], _, h => by cases h
  | a :: l, hn, h => by
    obtain ⟨h1, h2⟩ := List.nodup_cons.1 hn
    by_cases e : a = i
    · subst e
      have : l.filter (fun j => f j && j != a) = l.filter f := List.filter_congr fun j hj => by
        have : j ≠ a := fun e => h1 (e ▸ hj)
        simp [this]
      rw [List.filter_cons_of_neg (by simp), List.filter_cons_of_pos hf, this]; rfl
    · have hm : i ∈ l := (List.mem_cons.1 h).resolve_left (fun q => e q.symm)
      have ih := count_one hf h2 hm
      cases hfa : f a with
      | true => rw [List.filter_cons_of_pos (by simp [hfa, e]), List.filter_cons_of_pos hfa]; simp only [List.length_cons]; omega
      | false => rw [List.filter_cons_of_neg (by simp [hfa]), List.filter_cons_of_neg (by simp [hfa])]; exact ih

theorem ops_any (h : AnyOK P ops σ us depth) (hQ : ∀ a' w', RS k n L0 (foldP ops us.zipIdx σ) a' w' → Q .normal a' w') : ∀ (fuel : Nat) (listed : Array Bool) (a : Act) (w : World),
    listed.size = ops.size → (∀ i o e, ops[i]? = some o → e ∈ o.after → Region.binds .any e = true → listed.getD i false = true → listed.getD e.on false = true) →
    ((List.range ops.size).filter fun i => !listed.getD i false).length = fuel →
    RSb k n L0 (bdL σ.h.length us listed) (tau ops us σ listed) a w → wpAny P .any ops Q fuel listed a w := by
  have done : ∀ (listed : Array Bool) (a : Act) (w : World), (∀ i, i < ops.size → listed.getD i false = true) → RSb k n L0 (bdL σ.h.length us listed) (tau ops us σ listed) a w → Q .normal a w := by
    intro listed a w hall hrs
    refine hQ _ _ ?_
    have e : us.zipIdx.filter (lst listed) = us.zipIdx := List.filter_eq_self.2 fun p hp => by
      have := (List.getElem?_eq_some_iff.1 (zip_get hp)).1
      exact hall _ (by rw [← h.len]; exact this)
    unfold tau at hrs
    rw [e] at hrs
    obtain ⟨g1, g2⟩ := foldP_h ops us.zipIdx σ
    refine hrs.congr (fun _ => rfl) (fun _ => rfl) rfl (fun x hx => ?_)
    rcases hx with hx | ⟨p, hp, hx⟩
    · exact Nat.lt_of_lt_of_le hx g1
    · exact g2 p (List.mem_filter.1 hp).1 x hx
  intro fuel
  induction fuel with
  | zero =>
    intro listed a w hs hc hcount hrs
    have hz : True → ∀ i, i < ops.size → listed.getD i false = true := fun _ i hi => by
      have := List.filter_eq_nil_iff.1 (List.length_eq_zero_iff.1 hcount) i (List.mem_range.2 hi)
      simpa using this
    refine ⟨?_, done listed a w (hz trivial) hrs⟩
    cases hrd : Region.ready .any ops listed with
    | nil => rfl
    | cons i r =>
      exfalso
      obtain ⟨h1, o, h2, _⟩ := mem_ready (md := .any) (ops := ops) (listed := listed) (i := i) (by rw [hrd]; simp)
      have hi : i < ops.size := (Array.getElem?_eq_some_iff.1 h2).1
      have := hz trivial i hi
      rw [Array.getD_eq_getD_getElem?, Array.getElem?_eq_getElem (by omega)] at h1 this
      simp at h1 this
      rw [h1] at this; cases this
  | succ fuel ih =>
    intro listed a w hs hc hcount hrs
    refine ⟨fun hr => done listed a w (all_listed h hs hr) hrs, fun i hi => ?_⟩
    obtain ⟨hl, o, ho, hrd⟩ := mem_ready hi
    have hi : i < ops.size := (Array.getElem?_eq_some_iff.1 ho).1
    have hl' : listed.getD i false = false := by
      rw [Array.getD_eq_getD_getElem?, Array.getElem?_eq_getElem (by omega)] at hl ⊢; exact hl
    have hu : us[i]? = some (us[i]'(by rw [h.len]; exact hi)) := List.getElem?_eq_getElem _
    generalize us[i]'(by rw [h.len]; exact hi) = u at hu
    -- before `i` and behind it
    have before : ∀ p ∈ us.zipIdx, p.2 < i → ¬ (listed.getD p.2 false = true) → (fpT ops (foldP ops (us.zipIdx.take p.2) σ) p.2 p.1).apart (fpT ops (foldP ops (us.zipIdx.take i) σ) i u) = true := fun p hp hlt hn =>
      (h.pair hlt (zip_get hp) hu).resolve_right fun hb => hn (bef_ready hc hb ho hrd)
    have behind : ∀ p ∈ us.zipIdx, i < p.2 → listed.getD p.2 false = true → (fpT ops (foldP ops (us.zipIdx.take i) σ) i u).apart (fpT ops (foldP ops (us.zipIdx.take p.2) σ) p.2 p.1) = true := fun p hp hlt hn =>
      (h.pair hlt hu (zip_get hp)).resolve_right fun hb => by have := bef_closed hc hb hn; rw [hl'] at this; cases this
    have fpi : fpT ops (foldP ops (us.zipIdx.take i) σ) i u = ⟨tmpsR ops o, o.dst.toList, nodesR (foldP ops (us.zipIdx.take i) σ) o, u.2.map (·.1)⟩ := by simp [fpT, ho]
    have fpw : ∀ (p : PU) τ, (∀ t, dstOf ops p.2 = some t → t ∈ (fpT ops τ p.2 p.1).tw) ∧ ((∃ o, ops[p.2]? = some o) → (fpT ops τ p.2 p.1).nw = p.1.2.map (·.1)) := fun p τ => by
      refine ⟨fun t ht => ?_, fun ⟨o', ho'⟩ => by simp [fpT, ho']⟩
      unfold dstOf at ht
      cases hq : ops[p.2]? with
      | none => rw [hq] at ht; simp at ht
      | some o' => rw [hq] at ht; simp at ht; simp [fpT, hq, ht]
    have pin : ∀ p ∈ us.zipIdx, ∃ o, ops[p.2]? = some o := fun p hp => by
      have := (List.getElem?_eq_some_iff.1 (zip_get hp)).1
      exact ⟨_, Array.getElem?_eq_getElem (by rw [← h.len]; exact this)⟩
    refine h.op i u hu k n L0 (bdL σ.h.length us listed) (tau ops us σ listed) a w Q _ hrs (fun o' ho' => ?_) (fun j hj => ?_) (fun a' w' h' => ?_)
    · rw [ho] at ho'
      obtain rfl := Option.some.inj ho'
      refine ⟨fun t ht => tv_fold' ops t σ (kind_before hu hl' _ (fun p hp hlt hg => ?_) (fun p hp hgt hg => ?_)), fun x hx => nd_fold' ops x σ (kind_before hu hl' _ (fun p hp hlt hg => ?_) (fun p hp hgt hg => ?_))⟩
      · refine Classical.byContradiction fun hn => ?_
        have := (apart_tw (before p hp hlt hn)).1 t ((fpw p _).1 t (by simpa [Wt] using hg))
        rw [fpi] at this; exact this.1 ht
      · refine Bool.eq_false_iff.2 fun hn => ?_
        have := apart_tw (behind p hp hgt hn)
        rw [fpi] at this
        exact this.2.1 t ht ((fpw p _).1 t (by simpa [Wt] using hg))
      · refine Classical.byContradiction fun hn => ?_
        have := (apart_tw (before p hp hlt hn)).2.2.1 x (by rw [(fpw p _).2 (pin p hp)]; exact List.contains_iff_mem.1 hg)
        rw [fpi] at this; exact this.1 hx
      · refine Bool.eq_false_iff.2 fun hn => ?_
        have := apart_tw (behind p hp hgt hn)
        rw [fpi] at this
        exact this.2.2.2 x hx (by rw [(fpw p _).2 (pin p hp)]; exact List.contains_iff_mem.1 hg)
    · have nofr : ∀ p ∈ us.zipIdx.filter (lst listed), σ.h.length + 16 * i + j ∉ p.1.2.map (·.1) := fun p hp hx => by
        obtain ⟨hp1, hp2⟩ := List.mem_filter.1 hp
        have e16 : (σ.h.length + 16 * i + j - σ.h.length) / 16 = i := by omega
        rcases h.id hp1 hx with h1 | h1 | h1
        · omega
        · rw [e16] at h1; unfold lst at hp2; rw [← h1, hl'] at hp2; cases hp2
        · rw [e16] at h1; have := bef_closed hc h1 hp2; rw [hl'] at this; cases this
      refine ⟨?_, fun hb => ?_⟩
      · unfold tau
        rw [nd_fold' (qs := []) ops _ σ (by
          rw [List.filter_nil]
          exact filter_off fun p hp => Bool.eq_false_iff.2 fun hc' => nofr p hp (List.contains_iff_mem.1 hc'))]
        exact nd_none (by show σ.h.length ≤ _; omega)
      · rcases hb with hb | ⟨p, hp, hx⟩
        · omega
        · exact nofr p hp hx
    · refine ih (listed.setIfInBounds i true) a' w' (by simpa using hs) ?_ ?_ ?_
      · intro x o' e ho' he hb hx
        rw [getD_set (by omega)] at hx ⊢
        by_cases ex : x = i
        · subst ex
          rw [ho] at ho'
          obtain rfl := Option.some.inj ho'
          split
          · rfl
          · exact hrd e he hb
        · rw [if_neg ex] at hx
          split
          · rfl
          · exact hc x o' e ho' he hb hx
      · have hc1 := count_one (i := i) (f := fun j => !listed.getD j false) (by simp only [hl']; rfl) List.nodup_range (List.mem_range.2 hi)
        rw [hcount] at hc1
        rw [← Nat.succ.inj hc1]
        congr 1
        refine List.filter_congr fun j _ => ?_
        rw [getD_set (by omega)]
        by_cases e : j = i
        · simp [e]
        · simp [e]
      · unfold tau at h' ⊢
        rw [show (foldP ops (us.zipIdx.filter (lst listed)) σ).app ((ops[i]?).bind (·.dst)) u.1 u.2 = foldP ops (us.zipIdx.filter (lst listed) ++ [(u, i)]) σ by rw [foldP_append]; rfl] at h'
        refine h'.congr (fun t => tv_fold' ops t σ (kind_more hu (by omega) hl' _ (fun hg p hp hgt hgp => ?_))) (fun x => nd_fold' ops x σ (kind_more hu (by omega) hl' _ (fun hg p hp hgt hgp => ?_))) (by rw [foldP_len, foldP_len]) (fun x hx => ?_)
        · refine Bool.eq_false_iff.2 fun hn => ?_
          have := (apart_tw (behind p hp hgt hn)).1 t ((fpw (u, i) _).1 t (by simpa [Wt] using hg))
          exact this.2 ((fpw p _).1 t (by simpa [Wt] using hgp))
        · refine Bool.eq_false_iff.2 fun hn => ?_
          have := (apart_tw (behind p hp hgt hn)).2.2.1 x (by rw [fpi]; exact List.contains_iff_mem.1 hg)
          exact this.2 (by rw [(fpw p _).2 (pin p hp)]; exact List.contains_iff_mem.1 hgp)
        · have hmem : (u, i) ∈ us.zipIdx.filter (lst (listed.setIfInBounds i true)) := List.mem_filter.2 ⟨List.mem_zipIdx_iff_getElem?.2 hu, by unfold lst; rw [getD_set (by omega)]; simp⟩
          rcases hx with hx | hx
          · rcases hx with hx | ⟨p, hp, hx⟩
            · exact .inl hx
            · obtain ⟨hp1, hp2⟩ := List.mem_filter.1 hp
              refine .inr ⟨p, List.mem_filter.2 ⟨hp1, ?_⟩, hx⟩
              unfold lst at hp2 ⊢
              rw [getD_set (by omega)]
              split
              · rfl
              · exact hp2
          · exact .inr ⟨(u, i), hmem, hx⟩

end
end

section
open Go Go.RowKit

def exitOf : Out → Exit
  | .norm => .normal
  | .exit n => .exit n
  | .ret => .ret

def CodeOK (P : Program) (n : Nat) (c : Code) (σ : St) (out : Out) (σ' : St) : Prop :=
  ∀ (k : Base) (L0 : Nat → Nat × Nat) (a : Act) (w : World) (Q : Exit → Act → World → Prop), RS k n L0 σ a w → (∀ a' w', RS k n L0 σ' a' w' → Q (exitOf out) a' w') → c.wp P Q a w

def LoopOK (P : Program) (n : Nat) (c : Code) (σ : St) (out : Out) (σ' : St) : Prop :=
  ∃ m, ∀ (k : Base) (L0 : Nat → Nat × Nat) (a : Act) (w : World) (Q : Exit → Act → World → Prop), RS k n L0 σ a w → (∀ a' w', RS k n L0 σ' a' w' → Q (match out with | .exit n => .exit n | .ret => .ret | .norm => .normal) a' w') → out ≠ .norm → Code.rounds P c Q m a w

def Good (P : Program) : J → Prop
  | .op nid ops i σ r l => OpOK P nid ops i σ r l
  | .ops base ops is σ σ' us => OpsOK P base ops is σ σ' us
  | .reg n ops is σ σ' => RegOK P n ops is σ σ'
  | .code n c σ out σ' => CodeOK P n c σ out σ'
  | .loop n c σ out σ' => LoopOK P n c σ out σ' ∧ out ≠ .norm
  | .call f as vals outs => CallOK P f as vals outs

variable {P : Program} {X : FuncId → List Arg → List (Bool × List Cell) → List (Option (List Cell)) → Prop}

theorem init_ok {k : Base} {L0 : Nat → Nat × Nat} {F0 : Nat → List Nat} {as : List Arg} {vs : Array Value} {ntmps : Nat} (hsz : vs.size ≤ as.length ∧ (noEx as = true → vs.size = as.length)) (hx : (noEx as || Nat.ble as.length ntmps) = true) (m : Mem k (ndOf (as.map Arg.node)) k.w0 L0 F0 (· < as.length))
    (hv : ∀ i, RTV (SS k (ndOf (as.map Arg.node)) L0 F0 k.w0) (· < as.length) L0 k.w0 (vs.getD i undef) ((argTVs 0 as).getD i .undef)) :
    RS k as.length L0 (initS as ntmps) { tmps := vs ++ Array.replicate (ntmps - vs.size) undef, defers := [] } k.w0 := by
  have hlen : ∀ (as : List Arg) j, (argTVs j as).length = as.length := by
    intro as
    induction as with
    | nil => intro j; rfl
    | cons a as ih => intro j; simp [argTVs, ih]
  refine ⟨⟨L0, F0, (· < as.length), m, fun i => ?_, fun i hi => by show i < (as.map Arg.node).length; simpa using hi, fun i hi => ⟨hi, rfl⟩⟩, ?_, rfl⟩
  · have := hv i
    show RTV _ _ _ _ ((vs ++ Array.replicate (ntmps - vs.size) undef).getD i undef) ((argTVs 0 as ++ List.replicate (ntmps - as.length) TV.undef).getD i .undef)
    by_cases hi : i < as.length
    · rw [Array.getD_eq_getD_getElem?] at this ⊢
      rw [List.getD_eq_getElem?_getD] at this ⊢
      rw [List.getElem?_append_left (by rw [hlen]; exact hi)]
      by_cases hj : i < vs.size
      · rw [Array.getElem?_append_left hj]; exact this
      · rw [Array.getElem?_eq_none (by omega)] at this
        rw [Array.getElem?_append_right (by omega), Array.getElem?_replicate]
        split <;> exact this
    · rw [List.getD_eq_getElem?_getD, List.getElem?_append_right (by rw [hlen]; omega), List.getElem?_replicate]
      split <;> exact trivial
  · simp only [initS, List.length_append, hlen, List.length_replicate, Array.size_append, Array.size_replicate]
    cases e : noEx as with
    | true => have := hsz.2 e; omega
    | false => rw [e, Bool.false_or] at hx; have := Nat.le_of_ble_eq_true hx; omega

theorem sound (hm : P.follows .mixedOrders = true) (hX : ∀ f as vals outs, X f as vals outs → CallOK P f as vals outs) {j : J} (h : D P X j) : Good P j := by
  induction h with
  | opSkip ho hg => exact opSkip_ok ho hg
  | opEff ho hg he => exact opEff_ok ho hg he
  | opCall ho hg hop hen hargs hnd hdis _ hpure hcnt ih => exact opCall_ok ho hg hop hen hargs hnd hdis ih hpure hcnt
  | opsNil => exact ⟨rfl, rfl⟩
  | opsCons _ _ ih1 ih2 => exact ⟨ih1, ih2⟩
  | skip => exact fun k L0 a w Q hrs hQ => wp_skip (hQ _ _ hrs)
  | ret => exact fun k L0 a w Q hrs hQ => wp_ret (hQ _ _ hrs)
  | exit => exact fun k L0 a w Q hrs hQ => wp_exit (hQ _ _ hrs)
  | regNil => exact fun k L0 a w Q hrs hQ => hQ _ _ hrs
  | regCons _ _ ih1 ih2 => exact reg_cons ih1 ih2
  | regGh hg _ ih => exact fun k L0 a w Q hrs hQ => ih k L0 a w Q (hg k L0 a w hrs) hQ
  | region _ ih => exact fun k L0 a w Q hrs hQ => wp_region (ih k L0 a w _ hrs hQ)
  | @draws n id ops σ σ' us depth _ ho hi ha ih =>
    intro k L0 a w Q hrs hQ
    have ih' : OpsOK P (some σ.h.length) ops (List.range' 0 ops.size) σ σ' us := by rw [← List.range_eq_range']; exact ih
    obtain ⟨g1, g2, g3⟩ := opsOK_get ih'
    have hany : AnyOK P ops σ us depth := ⟨g1, fun j u hu => by have := g3 j u hu; rw [Nat.zero_add] at this; exact this, ho, hi, ha⟩
    refine wp_region_any hm (ops_any hany (by rw [← g2]; exact hQ) _ _ _ _ (by simp) ?_ ?_ ?_)
    · intro i o e _ _ _ hl
      simp [Array.getD_eq_getD_getElem?, Array.getElem?_replicate] at hl
      split at hl <;> cases hl
    · rw [List.filter_eq_self.2 (fun i hi => by simp [Array.getD_eq_getD_getElem?, Array.getElem?_replicate]; split <;> rfl)]; simp
    · have e : us.zipIdx.filter (lst (Array.replicate ops.size false)) = [] := List.filter_eq_nil_iff.2 fun p _ => by
        simp [lst, Array.getD_eq_getD_getElem?, Array.getElem?_replicate]; split <;> simp
      obtain ⟨⟨L, F, U, m, h1, h2, h3⟩, h4, h5⟩ := hrs
      obtain ⟨m', mo⟩ := m.same (w' := { w with drawn := w.drawn + 1 }) rfl rfl rfl rfl
      refine ⟨⟨L, F, U, ?_, fun i => ?_, fun i hi => .inl (h2 i hi), h3⟩, ?_, h5⟩
      · unfold tau; rw [e]; exact m'
      · unfold tau; rw [e]; exact mo.rtv (h1 i)
      · unfold tau; rw [e]; exact h4
  | seq _ _ ih1 ih2 => exact fun k L0 a w Q hrs hQ => wp_seq (ih1 k L0 a w _ hrs fun a' w' h' => ih2 k L0 a' w' Q h' hQ)
  | @seqOut n a b σ out σ' _ hne ih =>
    intro k L0 a w Q hrs hQ
    refine wp_seq (ih k L0 a w _ hrs fun a' w' h' => ?_)
    have := hQ a' w' h'
    cases out with
    | norm => exact absurd rfl hne
    | exit m => exact this
    | ret => exact this
  | @cond n c a b σ t out σ' hc _ ih =>
    intro k L0 a w Q hrs hQ
    obtain ⟨L, F, U, m, ht, _, _⟩ := hrs.ex
    have := evT_rtv ht c
    rw [hc] at this
    have hv : ∃ G : List Nat, Rep (SS k σ.nd L F w) U L w [a.eval c] [.prim (.bool t)] G := ⟨_, this⟩
    obtain ⟨G, hv⟩ := hv
    generalize hq : a.eval c = q at hv
    cases hv with
    | prim _ _ => exact wp_cond hq (ih k L0 a w Q hrs hQ)
  | @block n id c σ out σ' _ ih =>
    intro k L0 a w Q hrs hQ
    refine wp_block (ih k L0 a w _ hrs fun a' w' h' => ?_)
    have := hQ a' w' h'
    cases out with
    | norm => exact this
    | ret => exact this
    | exit m =>
      show if m = id then _ else _
      simp only [outBlock] at this
      split
      · rename_i e; rw [if_pos e] at this; exact this
      · rename_i e; rw [if_neg e] at this; exact this
  | @loop n c σ out σ' _ ih =>
    obtain ⟨⟨m, ih⟩, hne⟩ := ih
    intro k L0 a w Q hrs hQ
    refine wp_loop_rounds m (ih k L0 a w Q hrs (fun a' w' h' => ?_) hne)
    have := hQ a' w' h'
    cases out <;> exact this
  | @loopGo n c σ σ' out σ'' _ _ ih1 ih2 =>
    obtain ⟨⟨m, ih2⟩, hne⟩ := ih2
    refine ⟨⟨m + 1, fun k L0 a w Q hrs hQ _ => ?_⟩, hne⟩
    rw [rounds_succ]
    exact ih1 k L0 a w _ hrs fun a' w' h' => ih2 k L0 a' w' Q h' hQ hne
  | @loopEnd n c σ out σ' _ hne ih =>
    refine ⟨⟨1, fun k L0 a w Q hrs hQ _ => ?_⟩, hne⟩
    rw [rounds_succ]
    refine ih k L0 a w _ hrs fun a' w' h' => ?_
    have := hQ a' w' h'
    cases out with
    | norm => exact absurd rfl hne
    | exit m => exact this
    | ret => exact this
  | ghost hg _ ih => exact fun k L0 a w Q hrs hQ => ih k L0 a w Q (hg k L0 a w hrs) hQ
  | ghostL hg _ ih =>
    obtain ⟨⟨m, ih⟩, hne⟩ := ih
    exact ⟨⟨m, fun k L0 a w Q hrs hQ h => ih k L0 a w Q (hg k L0 a w hrs) hQ h⟩, hne⟩
  | ghostE _ hg ih => exact fun k L0 a w Q hrs hQ => ih k L0 a w Q hrs fun a' w' h' => hQ a' w' (hg k L0 a' w' h')
  | @call f fn c as out σ vals outs zs hf hb hex _ hout hfin ih =>
    intro k L0 F0 vs hsz m hv
    refine calls_of_wp hf hb (ih k L0 _ _ _ (init_ok hsz hex m hv) fun a' w' h' => ?_)
    obtain ⟨v, h1, h2⟩ := fin_ok (P := P) h' rfl hfin
    rcases hout with rfl | rfl
    · exact ⟨h'.defers, v, h1, v, rfl, h2⟩
    · exact ⟨h'.defers, v, h1, v, rfl, h2⟩
  | ext hx => exact hX _ _ _ _ hx
end

section
open Go Go.RowKit

/-! ### New numbers for nodes; what is not led to goes -/
def lastIx : List Nat → Nat → Option Nat
  | [], _ => none
  | a :: l, x => match lastIx l x with
    | some j => some (j + 1)
    | none => match Nat.beq a x with
      | true => some 0
      | false => none

def renC (ρ : List Nat) : Cell → Cell
  | .ref id off n s => match lastIx ρ id with
    | some j => .ref j off n s
    | none => .dead
  | .ptr id off => match lastIx ρ id with
    | some j => .ptr j off
    | none => .dead
  | c => c

def renTV (ρ : List Nat) : TV → TV
  | .v b l => .v b (l.map (renC ρ))
  | .tup l => .tup (l.map fun p => (p.1, p.2.map (renC ρ)))
  | .undef => .undef

theorem idxOf_some : ∀ {l : List Nat} {x j : Nat}, lastIx l x = some j → l[j]? = some x
  | [], _, _, h => by simp [lastIx] at h
  | a :: l, x, j, h => by
    unfold lastIx at h
    split at h
    · rename_i i e
      obtain rfl := Option.some.inj h
      exact (show l[i]? = some x from idxOf_some e)
    · split at h
      · rename_i e
        obtain rfl := Option.some.inj h
        rw [Nat.eq_of_beq_eq_true e]; rfl
      · cases h

section
variable {k : Base} {h : Nat → Option Node} {w : World} {L : Nat → Nat × Nat} {F : Nat → List Nat} {U : Nat → Prop}

theorem ren_rep {S S' U' : Nat → Prop} {L' : Nat → Nat × Nat} {ρ : List Nat} (hS : ∀ b, S b → S' b) (hU : ∀ j id, ρ[j]? = some id → U id → U' j ∧ L' j = L id) {vs : List Value} {cs : List Cell} {G : List Nat}
    (hr : Rep S U L w vs cs G) : Rep S' U' L' w vs (cs.map (renC ρ)) G := by
  induction hr with
  | nil => exact .nil
  | prim h1 _ ih => exact .prim h1 ih
  | nils _ ih => exact .nils ih
  | ro h1 h2 h3 h4 hc h5 _ _ ih => exact .ro (fun e => hS _ (h1 e)) h2 h3 h4 hc ((rep_sub h5 hS).free hc) ih
  | own h1 h2 h3 h4 hc hz h5 _ _ ih => exact .own h1 h2 h3 h4 hc hz ((rep_sub h5 hS).free hc) ih
  | ro0 h1 _ ih => exact .ro0 h1 ih
  | own0 h1 _ ih => exact .own0 h1 ih
  | @ref id off n s cap vs cs F h1 h2 h3 hz _ ih =>
    simp only [List.map_cons, renC]
    split
    · rename_i j e
      obtain ⟨g1, g2⟩ := hU j id (idxOf_some e) h1
      have := @Rep.ref S' U' L' w j off n s cap vs (cs.map (renC ρ)) F g1 (by rw [g2]; exact h2) h3 hz ih
      rw [g2] at this; exact this
    · exact .dead rfl ih
  | @ref0 p id off s vs cs F h1 h2 _ ih =>
    simp only [List.map_cons, renC]
    split
    · rename_i j e
      exact .ref0 (hU j id (idxOf_some e) h1).1 h2 ih
    · exact .dead rfl ih
  | @ptr id off vs cs F h1 _ ih =>
    simp only [List.map_cons, renC]
    split
    · rename_i j e
      obtain ⟨g1, g2⟩ := hU j id (idxOf_some e) h1
      have := @Rep.ptr S' U' L' w j off vs (cs.map (renC ρ)) F g1 ih
      rw [g2] at this; exact this
    · exact .dead rfl ih
  | rop h1 h4 hc h5 _ _ ih => exact .rop (fun e => hS _ (h1 e)) h4 hc ((rep_sub h5 hS).free hc) ih
  | ownp h1 h4 hc hz h5 _ _ ih => exact .ownp h1 h4 hc hz ((rep_sub h5 hS).free hc) ih
  | dead h1 _ ih => exact .dead h1 ih

theorem ren_rv {S S' U' : Nat → Prop} {L' : Nat → Nat × Nat} {ρ : List Nat} (hS : ∀ b, S b → S' b) (hU : ∀ j id, ρ[j]? = some id → U id → U' j ∧ L' j = L id) {x : Value} {b : Bool} {l : List Cell}
    (hr : RV S U L w x (b, l)) : RV S' U' L' w x (b, l.map (renC ρ)) := by
  cases b with
  | false => exact ren_rep hS hU hr
  | true => obtain ⟨vs, e, hr⟩ := hr; exact ⟨vs, e, ren_rep hS hU hr⟩

theorem ren_rtv {S S' U' : Nat → Prop} {L' : Nat → Nat × Nat} {ρ : List Nat} (hS : ∀ b, S b → S' b) (hU : ∀ j id, ρ[j]? = some id → U id → U' j ∧ L' j = L id) {x : Value} {tv : TV}
    (hr : RTV S U L w x tv) : RTV S' U' L' w x (renTV ρ tv) := by
  cases tv with
  | v b l => exact ren_rv hS hU hr
  | undef => trivial
  | tup l =>
    obtain ⟨xs, e, hl, hr⟩ := hr
    refine ⟨xs, e, by simpa using hl, fun i y c h1 h2 => ?_⟩
    rw [List.getElem?_map] at h2
    cases hq : l[i]? with
    | none => rw [hq] at h2; simp at h2
    | some q =>
      rw [hq] at h2
      obtain rfl := Option.some.inj h2
      exact ren_rv hS hU (hr i y q h1 hq)

theorem gh_ren {n : Nat} {σ σ' : St} (ρ : List (Nat × Bool)) (hn : (ρ.take n).map (·.1) = List.range n) (hd : ∀ (i j : Nat) nd nd' p q, σ'.nd i = some nd → σ'.nd j = some nd' → ρ[i]? = some p → ρ[j]? = some q → p.1 = q.1 → i = j)
    (hnd : ∀ j nd, σ'.nd j = some nd → ∃ p cs, ρ[j]? = some p ∧ σ.nd p.1 = some (nd.1, cs) ∧ nd.2 = (if p.2 then cs.map (renC (ρ.map (·.1))) else cs) ∧ (p.2 = false → closedL cs = true))
    (htv : ∀ i, σ'.tv i = .undef ∨ σ'.tv i = renTV (ρ.map (·.1)) (σ.tv i)) (hlt : σ'.t.length = σ.t.length) (hlh : σ'.h.length = ρ.length) : Gh n σ σ' := by
  intro k L0 a w hrs
  obtain ⟨⟨L, F, U, m, ht, hU, hnn⟩, hlen, hdf⟩ := hrs
  let L' : Nat → Nat × Nat := fun j => match ρ[j]? with | some p => L p.1 | none => (0, 0)
  let F' : Nat → List Nat := fun j => match ρ[j]? with | some p => F p.1 | none => []
  let U' : Nat → Prop := fun j => ∃ p, ρ[j]? = some p ∧ U p.1
  have hneq : ∀ p : Nat × Bool, ∀ cs : List Cell, (if p.2 then cs.map (renC (ρ.map (·.1))) else cs) ≠ [] ↔ cs ≠ [] := fun p cs => by split <;> simp
  have own : ∀ j, Own σ'.nd L' F' j = [] ∨ ∃ p, ρ[j]? = some p ∧ Own σ'.nd L' F' j = Own σ.nd L F p.1 ∧ ∃ nd, σ'.nd j = some nd := by
    intro j
    cases hj : σ'.nd j with
    | none => left; simp [Own, hj]
    | some nd =>
      obtain ⟨p, cs, h1, h2, h3, hsh⟩ := hnd j nd hj
      obtain ⟨o, cs'⟩ := nd
      simp only at h2 h3
      refine .inr ⟨p, h1, ?_, _, rfl⟩
      cases o with
      | false => simp [Own, hj, h2]
      | true =>
        rw [own_of hj, own_of h2]
        simp only [L', F', h1]
        by_cases hz : cs = []
        · subst hz
          have : cs' = [] := by rw [h3]; split <;> rfl
          rw [this]
        · rw [OB_ne hz, OB_ne (by rw [h3]; exact (hneq p cs).2 hz)]
  have hS : ∀ b, SS k σ.nd L F w b → SS k σ'.nd L' F' w b := fun b hb => ⟨hb.1, hb.2.1, fun j hj => by
    rcases own j with e | ⟨p, _, e, _⟩
    · rw [e] at hj; cases hj
    · rw [e] at hj; exact hb.2.2 _ hj⟩
  have hUU : ∀ j id, (ρ.map (·.1))[j]? = some id → U id → U' j ∧ L' j = L id := fun j id hj hu => by
    rw [List.getElem?_map] at hj
    cases hq : ρ[j]? with
    | none => rw [hq] at hj; simp at hj
    | some p =>
      rw [hq] at hj
      obtain rfl := Option.some.inj hj
      exact ⟨⟨p, hq, hu⟩, by simp [L', hq]⟩
  refine ⟨⟨L', F', U', ⟨m.S0lt, m.B0lt, fun j nd hj => ?_, fun j => ?_, fun i j hij b hb hc => ?_, fun j b hb => ?_, m.frame, m.os, m.tape, m.output, m.grows, m.gv⟩, fun i => ?_, fun j hj => ?_, fun i hi => ?_⟩, ?_, hdf⟩
  · obtain ⟨p, cs, h1, h2, h3, hsh⟩ := hnd j nd hj
    obtain ⟨hu, us, g1, g2, g3, g4⟩ := m.node _ _ h2
    simp only at g2 g3 g4
    have eL : L' j = L p.1 := by simp [L', h1]
    have eF : F' j = F p.1 := by simp [F', h1]
    rw [eL, eF, h3]
    refine ⟨⟨p, h1, hu⟩, us, g1, ?_, fun hne => g3 ((hneq p cs).1 hne), fun e => ⟨(g4 e).1, fun hne => hS _ ((g4 e).2 ((hneq p cs).1 hne))⟩⟩
    split
    · exact ren_rep hS hUU g2
    · rename_i hf
      exact (rep_sub g2 hS).free (hsh (by simpa using hf))
  · rcases own j with e | ⟨p, _, e, _⟩
    · rw [e]; exact List.nodup_nil
    · rw [e]; exact m.nodup _
  · rcases own i with e | ⟨p, e1, e, nd1, k1⟩
    · rw [e] at hb; cases hb
    · rcases own j with e' | ⟨q, e2, e', nd2, k2⟩
      · rw [e'] at hc; cases hc
      · rw [e] at hb; rw [e'] at hc
        exact m.disj p.1 q.1 (fun e3 => hij (hd i j _ _ p q k1 k2 e1 e2 e3)) b hb hc
  · rcases own j with e | ⟨p, _, e, _⟩
    · rw [e] at hb; cases hb
    · rw [e] at hb; exact m.inB _ b hb
  · have := htv i
    rcases this with e | e
    · rw [e]; trivial
    · rw [e]; exact ren_rtv hS hUU (ht i)
  · obtain ⟨p, hp, _⟩ := hj
    show j < σ'.h.length
    rw [hlh]; exact (List.getElem?_eq_some_iff.1 hp).1
  · have h1 : ((ρ.take n).map (·.1))[i]? = some i := by rw [hn]; simp [hi]
    rw [List.getElem?_map, List.getElem?_take] at h1
    rw [if_pos hi] at h1
    cases hq : ρ[i]? with
    | none => rw [hq] at h1; simp at h1
    | some p =>
      rw [hq] at h1
      have e : p.1 = i := Option.some.inj h1
      obtain ⟨g1, g2⟩ := hnn i hi
      exact ⟨⟨p, hq, by rw [e]; exact g1⟩, by simp [L', hq, e, g2]⟩
  · rw [hlt]; exact hlen

/-! ### Parts of nodes -/
theorem rs_of {n : Nat} {σ τ : St} {k : Base} {L0 : Nat → Nat × Nat} {a : Act} {w : World} {L F U L' F' U'} (ht : ∀ i, RTV (SS k σ.nd L F w) U L w (a.tmps.getD i undef) (σ.tv i)) (hnn : ∀ i, i < n → U i ∧ L i = L0 i) (hlen : σ.t.length ≤ a.tmps.size) (hd : a.defers = [])
    (m' : Mem k τ.nd w L' F' U') (mo : Mono k σ.nd w L F U τ.nd w L' F' U') (htv : τ.t = σ.t) (hU : ∀ i, U' i → i < τ.h.length) : RS k n L0 τ a w :=
  ⟨⟨L', F', U', m', fun i => by have := mo.rtv (ht i); unfold St.tv at this ⊢; rw [htv]; exact this, hU, fun i hi => by
    obtain ⟨h1, h2⟩ := hnn i hi
    obtain ⟨h3, h4⟩ := mo.2.1 i h1
    exact ⟨h3, h4.trans h2⟩⟩, by rw [htv]; exact hlen, hd⟩

theorem gh_freeze {n i : Nat} {σ : St} {cs : List Cell} (hi : σ.nd i = some (true, cs)) : Gh n σ ⟨σ.t, setH σ.h i (some (false, roifyL cs))⟩ := by
  intro k L0 a w hrs
  obtain ⟨⟨L, F, U, m, ht, hU, hnn⟩, hlen, hdf⟩ := hrs
  obtain ⟨F', m', mo⟩ := m.freeze hi
  have e : (⟨σ.t, setH σ.h i (some (false, roifyL cs))⟩ : St).nd = upd σ.nd i (some (false, roifyL cs)) := ndOf_setH _ _ _
  rw [← e] at m' mo
  exact rs_of ht hnn hlen hdf m' mo rfl (fun j hj => by
    show j < (setH σ.h i _).length
    rw [setH_length]; have := hU j hj; omega)

theorem gh_inline {n i j c s : Nat} {σ : St} {A C cs : List Cell} (hij : i ≠ j) (hi : σ.nd i = some (true, A ++ [.ref j 0 c s] ++ C)) (hj : σ.nd j = some (true, cs)) (hs : cs.all Cell.shal = true) (hl : cs.length = c * s) (hsz : s ≠ 0) :
    Gh n σ ⟨σ.t, setH (setH σ.h j none) i (some (true, A ++ [.sl true c s cs] ++ C))⟩ := by
  intro k L0 a w hrs
  obtain ⟨⟨L, F, U, m, ht, hU, hnn⟩, hlen, hdf⟩ := hrs
  obtain ⟨F', m', mo⟩ := m.inline hij hi hj hs hl hsz
  have e : (⟨σ.t, setH (setH σ.h j none) i (some (true, A ++ [.sl true c s cs] ++ C))⟩ : St).nd = upd (upd σ.nd j none) i (some (true, A ++ [.sl true c s cs] ++ C)) := by
    rw [nd_eq]; simp only [ndOf_setH]; rfl
  rw [← e] at m' mo
  exact rs_of ht hnn hlen hdf m' mo rfl (fun x hx => by
    show x < (setH (setH σ.h j none) i _).length
    rw [setH_length, setH_length]; have := hU x hx; omega)

theorem gh_drawOut {n i c s : Nat} {σ : St} {A C cs : List Cell} (hi : σ.nd i = some (true, A ++ [.sl true c s cs] ++ C)) :
    Gh n σ ⟨σ.t, setH (setH σ.h i (some (true, A ++ [.ref σ.h.length 0 c s] ++ C))) σ.h.length (some (true, cs))⟩ := by
  intro k L0 a w hrs
  obtain ⟨⟨L, F, U, m, ht, hU, hnn⟩, hlen, hdf⟩ := hrs
  obtain ⟨L', F', m', mo⟩ := m.drawOut (nid := σ.h.length) hi (nd_none (Nat.le_refl _)) (fun hu => by have := hU _ hu; omega)
  have e : (⟨σ.t, setH (setH σ.h i (some (true, A ++ [.ref σ.h.length 0 c s] ++ C))) σ.h.length (some (true, cs))⟩ : St).nd = upd (upd σ.nd i (some (true, A ++ [.ref σ.h.length 0 c s] ++ C))) σ.h.length (some (true, cs)) := by
    rw [nd_eq]; simp only [ndOf_setH]; rfl
  rw [← e] at m' mo
  exact rs_of ht hnn hlen hdf m' mo rfl (fun x hx => by
    show x < (setH (setH σ.h i _) σ.h.length _).length
    rw [setH_length, setH_length]
    rcases hx with hx | hx
    · have := hU x hx; omega
    · omega)

/-! ### The same, told in other words -/
/-- A cell may be told so, too. -/
inductive CW (h : Nat → Option Node) : Cell → Cell → Prop
  | refl {c} : CW h c c
  | nilR {s} : CW h .nil (.sl false 0 s [])
  | nilO {s} : CW h .nil (.sl true 0 s [])
  | zero {s} : CW h (.sl true 0 s []) (.sl false 0 s [])
  | ref0 {id off s} : CW h (.ref id off 0 s) (.sl false 0 s [])
  | look {id off n s cs} : h id = some (false, cs) → off + n * s ≤ cs.length → ((cs.drop off).take (n * s)).all Cell.shal = true → CW h (.ref id off n s) (.sl false n s ((cs.drop off).take (n * s)))
  | rop {id off cs} : h id = some (false, cs) → cs.all Cell.shal = true → CW h (.ptr id off) (.rop (cs.drop off))
  | deadR {id off n s} : CW h (.ref id off n s) .dead

inductive CWs (h : Nat → Option Node) : List Cell → List Cell → Prop
  | nil : CWs h [] []
  | cons {c c' cs cs'} : CW h c c' → CWs h cs cs' → CWs h (c :: cs) (c' :: cs')

theorem CWs.refl {h : Nat → Option Node} : ∀ cs, CWs h cs cs
  | [] => .nil
  | _ :: cs => .cons .refl (CWs.refl cs)

theorem cw_rep (m : Mem k h w L F U) {x : Value} {c c' : Cell} {G : List Nat} (hr : Rep (SS k h L F w) U L w [x] [c] G) (hc : CW h c c') : Rep (SS k h L F w) U L w [x] [c'] G := by
  cases hc with
  | refl => exact hr
  | nilR => cases hr with | nils hn => exact .ro0 (fun _ => rfl) hn
  | nilO => cases hr with | nils hn => exact .own0 (.inl rfl) hn
  | zero =>
    cases hr with
    | own _ _ _ _ _ hz _ _ => exact absurd rfl hz
    | own0 hp hn => exact ro_zero hp hn
  | ref0 =>
    cases hr with
    | ref _ _ _ hz _ => exact absurd rfl hz
    | ref0 _ hp hn => exact ro_zero hp hn
  | @look id off n s cs hid hle hs =>
    obtain ⟨_, us, g1, g2, g3, g4⟩ := m.node id _ hid
    obtain ⟨g5, g6⟩ := g4 rfl
    simp only at g2
    rw [g5] at g2
    have hl := g2.length
    have hsub := rep_take (n * s) (rep_drop off g2)
    have hcl := hsub.closed hs
    cases hr with
    | ref0 hU hp hnil => simpa using ro_zero (s := s) hp hnil
    | ref hU hW hn hz hnil =>
      exact .ro (us := (us.drop off).take (n * s)) (fun hne => g6 (fun e => hne (by simp only at e; rw [e]; simp))) (by simp; omega) hn (rangeAt_take (rangeAt_drop g1 off) _) hcl hsub hnil
  | @rop id off cs hid hs =>
    obtain ⟨_, us, g1, g2, g3, g4⟩ := m.node id _ hid
    obtain ⟨g5, g6⟩ := g4 rfl
    simp only at g2
    rw [g5] at g2
    have hsub := rep_drop off g2
    have hcl := hsub.closed (List.all_eq_true.2 fun c hc => List.all_eq_true.1 hs c (List.mem_of_mem_drop hc))
    cases hr with
    | ptr hU hnil =>
      exact .rop (us := us.drop off) (fun hne => g6 (fun e => hne (by simp only at e; rw [e]; simp))) (rangeAt_drop g1 off) hcl hsub hnil
  | deadR =>
    cases hr with
    | ref _ _ _ _ hn => exact .dead rfl hn
    | ref0 _ _ hn => exact .dead rfl hn

theorem cws_rep (m : Mem k h w L F U) {cs cs' : List Cell} (hc : CWs h cs cs') : ∀ {vs : List Value} {G : List Nat}, Rep (SS k h L F w) U L w vs cs G → Rep (SS k h L F w) U L w vs cs' G := by
  induction hc with
  | nil => exact fun hr => hr
  | cons h1 _ ih =>
    intro vs G hr
    match vs, hr with
    | [], hr => have := hr.length; simp at this
    | v :: vs, hr =>
      obtain ⟨G1, G2, rfl, r1, r2⟩ := rep_cons hr
      exact (cw_rep m r1 h1).append (ih r2)

inductive TW (h : Nat → Option Node) : TV → TV → Prop
  | v {b l l'} : CWs h l l' → TW h (.v b l) (.v b l')
  | undef {tv} : TW h tv .undef

theorem tw_rtv (m : Mem k h w L F U) {x : Value} {tv tv' : TV} (hr : RTV (SS k h L F w) U L w x tv) (ht : TW h tv tv') : RTV (SS k h L F w) U L w x tv' := by
  cases ht with
  | undef => trivial
  | @v b l l' hc =>
    cases b with
    | false => exact cws_rep m hc hr
    | true => obtain ⟨vs, e, hr⟩ := hr; exact ⟨vs, e, cws_rep m hc hr⟩

/-- A temp, told otherwise. -/
theorem gh_tmp {n : Nat} {σ : St} (i : Nat) {tv' : TV} (ht' : TW σ.nd (σ.tv i) tv') : Gh n σ ⟨σ.t.set i tv', σ.h⟩ := by
  intro k L0 a w hrs
  obtain ⟨⟨L, F, U, m, ht, hU, hnn⟩, hlen, hdf⟩ := hrs
  refine ⟨⟨L, F, U, m, fun j => ?_, hU, hnn⟩, by simpa using hlen, hdf⟩
  show RTV _ _ _ _ _ ((σ.t.set i tv').getD j .undef)
  rw [List.getD_eq_getElem?_getD, List.getElem?_set]
  have hj := ht j
  split
  · rename_i e
    subst e
    split
    · exact tw_rtv m hj ht'
    · trivial
  · unfold St.tv at hj; rw [List.getD_eq_getElem?_getD] at hj; exact hj

/-- A node, told otherwise. -/
theorem gh_node {n : Nat} {σ : St} (i : Nat) {o : Bool} {cs cs' : List Cell} (hi : σ.nd i = some (o, cs)) (hc : CWs σ.nd cs cs') : Gh n σ ⟨σ.t, setH σ.h i (some (o, cs'))⟩ := by
  intro k L0 a w hrs
  obtain ⟨⟨L, F, U, m, ht, hU, hnn⟩, hlen, hdf⟩ := hrs
  have hlc : cs'.length = cs.length := by
    clear hi
    induction hc with
    | nil => rfl
    | cons _ _ ih => simp [ih]
  have hne : cs' ≠ [] ↔ cs ≠ [] := by rw [← List.length_pos_iff, ← List.length_pos_iff, hlc]
  have e : (⟨σ.t, setH σ.h i (some (o, cs'))⟩ : St).nd = upd σ.nd i (some (o, cs')) := ndOf_setH _ _ _
  have hO : ∀ x, Own (upd σ.nd i (some (o, cs'))) L F x = Own σ.nd L F x := fun x => by
    by_cases ex : x = i
    · subst ex
      cases o with
      | false => simp [Own, upd_same, hi]
      | true =>
        rw [own_of (upd_same _ _ _), own_of hi]
        by_cases hz : cs = []
        · subst hz
          have : cs' = [] := List.eq_nil_of_length_eq_zero (by simpa using hlc)
          rw [this]
        · rw [OB_ne hz, OB_ne (hne.2 hz)]
    · simp [Own, upd_other _ _ ex]
  obtain ⟨m', mo⟩ := m.master (h' := upd σ.nd i (some (o, cs'))) (w' := w) (L' := L) (F' := F) (U' := U) (Grows.refl w) rfl rfl rfl (fun x b hb => .inl ⟨x, by rw [hO] at hb; exact hb⟩) (fun x => by rw [hO]; exact m.nodup x)
    (fun x y hxy b hb hc' => by rw [hO] at hb hc'; exact m.disj x y hxy b hb hc') (fun _ _ _ => rfl) (fun _ hx => ⟨hx, rfl⟩)
    (fun mo x nd hx => by
      by_cases ex : x = i
      · subst ex
        rw [upd_same] at hx
        obtain rfl := Option.some.inj hx
        obtain ⟨hu, us, g1, g2, g3, g4⟩ := m.node x _ hi
        simp only at g2 g3 g4
        exact ⟨hu, us, g1, mo.repF (cws_rep m hc g2) (fun _ _ => rfl), fun q => g3 (hne.1 q), fun q => ⟨(g4 q).1, fun q' => (mo.1 _ ((g4 q).2 (hne.1 q'))).1⟩⟩
      · rw [upd_other _ _ ex] at hx
        exact m.keep mo hx rfl (fun _ _ => rfl))
  rw [← e] at m' mo
  exact rs_of ht hnn hlen hdf m' mo rfl (fun j hj => by
    show j < (setH σ.h i _).length
    rw [setH_length]; have := hU j hj; omega)

/-- A nil slice in a temp is a new node without elements. -/
theorem gh_virt {n : Nat} {σ : St} (i s : Nat) (hi : σ.tv i = .v false [.nil]) : Gh n σ ⟨σ.t.set i (.v false [.ref σ.h.length 0 0 s]), setH σ.h σ.h.length (some (true, []))⟩ := by
  intro k L0 a w hrs
  obtain ⟨⟨L, F, U, m, ht, hU, hnn⟩, hlen, hdf⟩ := hrs
  obtain ⟨m', mo⟩ := m.virt (nid := σ.h.length) (nd_none (Nat.le_refl _)) (fun hu => by have := hU _ hu; omega)
  have e : (⟨σ.t.set i (.v false [.ref σ.h.length 0 0 s]), setH σ.h σ.h.length (some (true, []))⟩ : St).nd = upd σ.nd σ.h.length (some (true, [])) := ndOf_setH _ _ _
  rw [← e] at m' mo
  refine ⟨⟨_, _, _, m', fun j => ?_, fun j hj => ?_, fun j hj => ?_⟩, by simpa using hlen, hdf⟩
  · show RTV _ _ _ _ _ ((σ.t.set i _).getD j .undef)
    rw [List.getD_eq_getElem?_getD, List.getElem?_set]
    have hj := mo.rtv (ht j)
    split
    · rename_i e2
      subst e2
      split
      · rw [hi] at hj
        show Rep _ _ _ _ _ _ _
        generalize a.tmps.getD i undef = x at hj
        obtain rfl := rep_nilc hj
        exact .ref0 (.inr rfl) (.inl rfl) .nil
      · trivial
    · unfold St.tv at hj; rw [List.getD_eq_getElem?_getD] at hj; exact hj
  · show j < (setH σ.h σ.h.length _).length
    rw [setH_length]
    rcases hj with hj | hj
    · have := hU j hj; omega
    · omega
  · obtain ⟨h1, h2⟩ := hnn j hj
    obtain ⟨h3, h4⟩ := mo.2.1 j h1
    exact ⟨h3, h4.trans h2⟩
end
end

section
open Go Go.RowKit Go.ChangeShapes

def fieldsOK (P : Program) : Nat → List Field → Nat → Bool
  | off, [], n => off == n
  | off, f :: fs, n => f.offset == off && fieldsOK P (off + P.cellsOf f.type) fs n

/-- Types of plain data. -/
def plainN (P : Program) : Nat → TypeId → Bool
  | 0, _ => false
  | d + 1, t => match P.underlying t with
    | some .bool | some (.int _) | some .string => P.cellsOf t == 1
    | some (.slice e) => plainN P d e && decide (0 < P.cellsOf e) && P.cellsOf t == 1
    | some (.struct fs) => fieldsOK P 0 fs.toList (P.cellsOf t) && fs.toList.all fun f => plainN P d f.type
    | _ => false

/-- The cells of a list of elements or fields. -/
inductive Each {α : Type} (R : α → List Cell → Prop) : List α → List Cell → Prop
  | nil : Each R [] []
  | cons {a l as ls} : R a l → Each R as ls → Each R (a :: as) (l ++ ls)

/-- `n` parts, one behind the other. -/
inductive Reps (R : List Cell → Prop) : Nat → List Cell → Prop
  | nil : Reps R 0 []
  | cons {n l ls} : R l → Reps R n ls → Reps R (n + 1) (l ++ ls)

/-- The cells of plain data of a type, as they come into a law. -/
def fitN (P : Program) : Nat → TypeId → List Cell → Prop
  | 0, _, _ => False
  | d + 1, t, cs => match P.underlying t with
    | some .bool => ∃ b, cs = [.prim (.bool b)]
    | some (.int k) => ∃ n, cs = [.prim (.int k n)] ∧ (Lit.int k n).wf = true
    | some .string => ∃ s, cs = [.prim (.string s)] ∧ s.size ≤ reachBytes
    | some (.slice e) => ∃ n l, cs = [.sl false n (P.cellsOf e) l] ∧ n * P.bytesOf e ≤ reachBytes ∧ Reps (fitN P d e) n l
    | some (.struct fs) => Each (fun (f : Field) l => fitN P d f.type l) fs.toList cs
    | _ => False

theorem cells?_some {w : World} {base : Nat} {a : Addr} {n : Nat} {cs : List Value} (h : w.cells? base a n = some cs) : cs.length = n ∧ ∀ (j : Nat) v, cs[j]? = some v → w.cell? (a.add j) = some v := by
  unfold World.cells? at h
  split at h
  · have hl := mapM_some_length h
    simp only [List.length_range] at hl
    refine ⟨hl, fun j v hj => ?_⟩
    have hjn : j < n := by rw [← hl]; exact (List.getElem?_eq_some_iff.1 hj).1
    have := mapM_some_get h j j (by simp [hjn])
    rw [hj] at this; exact this
  · cases h

theorem cell_spot {w : World} {a : Addr} {v : Value} (h : w.cell? a = some v) : a.spot = none ∧ a.block < w.heap.size := by
  unfold World.cell? at h
  split at h
  · rename_i c t fr hb
    split at h
    · cases h
    · rename_i hs
      exact ⟨by simpa using hs, (Array.getElem?_eq_some_iff.1 hb).1⟩
  · cases h

section
variable {H : Type} {enc : TypeId × Value → H} {P : Program} {w : World}

theorem fit_of_trod : ∀ (d : Nat) (t : TypeId) (fuel : Nat) (cs : List Value) (x : DataW H × List MemPlace), plainN P d t = true → DataW.trod enc P w 0 (fun _ => true) true fuel t cs = some x →
    (x.1.weights P t).all (· ≤ reachBytes) = true → cs.length = P.cellsOf t ∧ ∃ l, Rep (fun b => b < w.heap.size) noU noL w cs l [] ∧ fitN P d t l ∧ closedL l = true
  | 0, _, _, _, _, hp, _, _ => by simp [plainN] at hp
  | d + 1, t, fuel, cs, x, hp, hx, hw => by
    unfold plainN at hp
    unfold fitN
    split at hp
    · rename_i ht
      obtain ⟨b, rfl, rfl⟩ := DataW.trod_bool ht hx
      exact ⟨by simpa using (beq_iff_eq.1 hp).symm, _, .prim rfl .nil, ⟨b, rfl⟩, rfl⟩
    · rename_i k ht
      obtain ⟨n, rfl, rfl, hn⟩ := DataW.trod_int ht hx
      exact ⟨by simpa using (beq_iff_eq.1 hp).symm, _, .prim rfl .nil, ⟨n, rfl, hn⟩, rfl⟩
    · rename_i ht
      obtain ⟨s, rfl, rfl, _⟩ := DataW.trod_string ht hx
      simp only [DataW.weights, List.all_cons, List.all_nil, Bool.and_true, decide_eq_true_eq] at hw
      exact ⟨by simpa using (beq_iff_eq.1 hp).symm, _, .prim rfl .nil, ⟨s, rfl, by simpa using hw⟩, rfl⟩
    · rename_i e ht
      simp only [Bool.and_eq_true, decide_eq_true_eq, beq_iff_eq] at hp
      obtain ⟨⟨hp1, hp2⟩, hp3⟩ := hp
      rcases DataW.trod_slice ht hx with ⟨rfl, rfl⟩ | ⟨a, len, cap, elems, rest, n, rfl, rfl, rfl, _, hlc, hcap, hel, hget, _, _⟩
      · exact ⟨by simp [hp3], _, .ro0 (fun _ => rfl) .nil, ⟨0, [], rfl, by simp, .nil⟩, rfl⟩
      · refine ⟨by simp [hp3], ?_⟩
        have hw' : (elems.map (·.1)).length * P.bytesOf e ≤ reachBytes ∧ ∀ y ∈ elems, (y.1.weights P e).all (· ≤ reachBytes) = true := by
          simp only [DataW.weights, ht, List.all_cons, List.all_append, Bool.and_eq_true, decide_eq_true_eq] at hw
          refine ⟨Nat.le_trans (Nat.mul_le_mul_right _ (by simp)) hw.1, ?_⟩
          have h2 := hw.2.1
          clear hget hel hw hx
          induction elems with
          | nil => intro y hy; cases hy
          | cons z elems ih =>
            simp only [List.map_cons, DataW.weightsAll, List.all_append, Bool.and_eq_true] at h2
            intro y hy
            rcases List.mem_cons.1 hy with rfl | hy
            · exact h2.1
            · exact ih h2.2 y hy
        -- element by element
        have one : ∀ i, i < len → ∃ us l, us.length = P.cellsOf e ∧ (∀ (j : Nat) v, us[j]? = some v → w.cell? ((a.add (i * P.cellsOf e)).add j) = some v) ∧ Rep (fun b => b < w.heap.size) noU noL w us l [] ∧ fitN P d e l ∧ closedL l = true := by
          intro i hi
          have hg := hget i hi
          rw [List.getElem?_eq_getElem (by omega)] at hg
          obtain ⟨us, h1, h2⟩ := Option.bind_eq_some_iff.1 hg
          obtain ⟨h3, h4⟩ := cells?_some h1
          obtain ⟨_, l, h5, h6, h7⟩ := fit_of_trod d e n us _ hp1 h2 (hw'.2 _ (List.getElem_mem _))
          exact ⟨us, l, h3, h4, h5, h6, h7⟩
        by_cases hz : len = 0
        · subst hz
          exact ⟨_, .ro0 (fun e => by cases e) .nil, ⟨0, [], rfl, by simp, .nil⟩, rfl⟩
        obtain ⟨us0, _, hu0, hc0, _⟩ := one 0 (by omega)
        have hu00 : ∃ v, us0[0]? = some v := ⟨_, List.getElem?_eq_getElem (by omega)⟩
        obtain ⟨v0, hv0⟩ := hu00
        have h00 := hc0 0 v0 hv0
        simp only [Nat.zero_mul] at h00
        have ha0 : (a.add 0).add 0 = a := by simp [Addr.add]
        rw [ha0] at h00
        obtain ⟨hs, hblk⟩ := cell_spot h00
        obtain ⟨b, o, sp⟩ := a
        simp only at hs
        subst hs
        -- all elements from `i` on
        have all : ∀ m i, i + m = len → ∃ us l, us.length = m * P.cellsOf e ∧ w.rangeAt b (o + i * P.cellsOf e) us ∧ Rep (fun b => b < w.heap.size) noU noL w us l [] ∧ Reps (fitN P d e) m l ∧ closedL l = true := by
          intro m
          induction m with
          | zero => intro i _; exact ⟨[], [], by simp, rangeAt_nil _ _ _, .nil, .nil, rfl⟩
          | succ m ih =>
            intro i hi
            obtain ⟨us1, l1, g1, g2, g3, g4, g5⟩ := one i (by omega)
            obtain ⟨us2, l2, k1, k2, k3, k4, k5⟩ := ih (i + 1) (by omega)
            refine ⟨us1 ++ us2, l1 ++ l2, by simp [g1, k1, Nat.succ_mul, Nat.add_comm], rangeAt_append (fun j v hj => ?_) ?_, by simpa using g3.append k3, .cons g4 k4, by rw [closedL_append, g5, k5]; rfl⟩
            · have := g2 j v hj
              rw [Addr.add_mid, Addr.add_mid] at this; exact this
            · rw [g1, Nat.add_assoc, ← Nat.succ_mul]; exact k2
        obtain ⟨us, l, g1, g2, g3, g4, g5⟩ := all len 0 (by omega)
        rw [Nat.zero_mul, Nat.add_zero] at g2
        have hl := g3.length
        have := @Rep.ro (fun b => b < w.heap.size) noU noL w b o len cap (P.cellsOf e) l us [] [] [] (fun _ => hblk) (by omega) hlc g2 g5 g3 .nil
        exact ⟨_, this, ⟨len, l, rfl, by simpa [hel] using hw'.1, g4⟩, by simp [closedL, Cell.closed, g5]⟩
    · rename_i fs ht
      simp only [Bool.and_eq_true] at hp
      obtain ⟨hp1, hp2⟩ := hp
      obtain ⟨xs, n, rfl, rfl, hl, hxs, hget⟩ := DataW.trod_struct ht hx
      refine ⟨hl, ?_⟩
      simp only [DataW.weights, ht] at hw
      have go : ∀ (fl : List Field) (ys : List (DataW H × List MemPlace)) (off : Nat), fieldsOK P off fl cs.length = true → fl.all (fun f => plainN P d f.type) = true → ys.length = fl.length → off ≤ cs.length →
          (∀ (i : Nat) (f : Field), fl[i]? = some f → DataW.trod enc P w 0 (fun _ => true) true n f.type ((cs.drop f.offset).take (P.cellsOf f.type)) = ys[i]?) →
          (DataW.weightsEach P (fl.map (·.type)) (ys.map (·.1))).all (· ≤ reachBytes) = true →
          ∃ l, Rep (fun b => b < w.heap.size) noU noL w (cs.drop off) l [] ∧ Each (fun (f : Field) l => fitN P d f.type l) fl l ∧ closedL l = true := by
        intro fl
        induction fl with
        | nil =>
          intro ys off h1 _ _ _ _ _
          simp only [fieldsOK, beq_iff_eq] at h1
          exact ⟨[], by rw [h1, List.drop_length]; exact .nil, .nil, rfl⟩
        | cons f fl ih =>
          intro ys off h1 h2 h3 h4 h5 h6
          match ys, h3 with
          | y :: ys, h3 =>
          simp only [fieldsOK, Bool.and_eq_true, beq_iff_eq] at h1
          obtain ⟨rfl, h1⟩ := h1
          simp only [List.all_cons, Bool.and_eq_true] at h2
          simp only [List.map_cons, DataW.weightsEach, List.all_append, Bool.and_eq_true] at h6
          have hf := h5 0 f rfl
          simp only [List.getElem?_cons_zero] at hf
          obtain ⟨k1, l1, k2, k3, k4⟩ := fit_of_trod d f.type n _ y h2.1 hf h6.1
          simp only [List.length_take, List.length_drop] at k1
          have hz : f.offset + P.cellsOf f.type ≤ cs.length := by omega
          obtain ⟨l2, m2, m3, m4⟩ := ih ys (f.offset + P.cellsOf f.type) h1 h2.2 (by simpa using h3) hz (fun i g hg => h5 (i + 1) g hg) h6.2
          refine ⟨l1 ++ l2, ?_, .cons k3 m3, by rw [closedL_append, k4, m4]; rfl⟩
          have := k2.append m2
          rw [← List.drop_drop, List.take_append_drop] at this
          simpa using this
      obtain ⟨l, g1, g2, g3⟩ := go fs.toList xs 0 (by rw [hl]; exact hp1) hp2 (by simpa using hxs) (Nat.zero_le _) (fun i f hf => hget i f (by simpa using hf)) hw
      exact ⟨l, by simpa using g1, g2, g3⟩
    · cases hp

/-- How an argument of a law lies: its cells, and whether it is a struct. -/
def rowB (P : Program) (t : TypeId) : Bool := match P.underlying t with | some (.struct _) => true | _ => false

theorem rv_of_rep {S U : Nat → Prop} {L : Nat → Nat × Nat} {r : Reach} {base d : Nat} {t : TypeId} {v : Value} {l : List Cell} (hp : plainN P d t = true) (hok : Value.okWide P w r base t v) (hr : Rep S U L w v.cells.toList l []) :
    RV S U L w v (rowB P t, l) := by
  cases d with
  | zero => simp [plainN] at hp
  | succ d =>
    unfold plainN at hp
    unfold rowB
    have one : ∀ {x : Value}, x.cells.toList = [x] → v = x → RV S U L w v (false, l) := fun {x} e1 e2 => by
      subst e2; rw [e1] at hr; exact hr
    unfold Value.okWide at hok
    cases ht : P.underlying t with
    | none => rw [ht] at hp; cases hp
    | some td =>
      rw [ht] at hp hok
      cases td with
      | struct fs =>
        obtain ⟨cs, rfl, _, _⟩ := hok
        exact ⟨cs, rfl, by simpa [Value.cells] using hr⟩
      | bool => simp only [Cell.okWide, Cell.ok, ht] at hok; cases v <;> simp at hok <;> exact one rfl rfl
      | int k => simp only [Cell.okWide, Cell.ok, ht] at hok; cases v <;> simp at hok <;> exact one rfl rfl
      | string => simp only [Cell.okWide, Cell.ok, ht] at hok; cases v <;> simp at hok <;> exact one rfl rfl
      | slice e => simp only [Cell.okWide, Cell.ok, ht] at hok; cases v <;> simp at hok <;> exact one rfl rfl
      | _ => cases hp

/-- The arguments of a law. -/
inductive FitAll (P : Program) (d : Nat) : List TypeId → List Arg → Prop
  | nil : FitAll P d [] []
  | cons {t l ts as} : fitN P d t l → FitAll P d ts as → FitAll P d (t :: ts) (.val (rowB P t) l :: as)

theorem fitAll_of {r : Reach} {base d : Nat} : ∀ (ts : List TypeId) (vs : List Value) (ds : List (DataW H)) (ps : List MemPlace), ts.all (plainN P d) = true → DataW.TrodAll enc P w 0 (fun _ => true) true ts vs ds ps →
    (∀ (j : Nat) t v, ts[j]? = some t → vs[j]? = some v → Value.okWide P w r base t v) → (DataW.weightsEach P ts ds).all (· ≤ reachBytes) = true →
    ∃ as, FitAll P d ts as ∧ as.length = vs.length ∧ ∀ (j : Nat) v a, vs[j]? = some v → as[j]? = some a → ∃ b l, a = .val b l ∧ Rep (fun b => b < w.heap.size) noU noL w v.cells.toList l [] ∧ RV (fun b => b < w.heap.size) noU noL w v (b, l)
  | [], [], ds, ps, _, _, _, _ => ⟨[], .nil, rfl, fun j v a h => by simp at h⟩
  | t :: ts, v :: vs, dd :: ds, ps, hp, ht, hok, hw => by
    obtain ⟨p, q, ⟨fuel, h1⟩, h2, rfl⟩ := ht
    simp only [List.all_cons, Bool.and_eq_true] at hp
    simp only [DataW.weightsEach, List.all_append, Bool.and_eq_true] at hw
    obtain ⟨_, l, k1, k2, _⟩ := fit_of_trod d t fuel _ _ hp.1 h1 hw.1
    obtain ⟨as, g1, g2, g3⟩ := fitAll_of ts vs ds q hp.2 h2 (fun j t v a b => hok (j + 1) t v a b) hw.2
    refine ⟨_, .cons k2 g1, by simp [g2], fun j u a hj ha => ?_⟩
    cases j with
    | zero =>
      obtain rfl := Option.some.inj hj
      obtain rfl := Option.some.inj ha
      exact ⟨_, _, rfl, k1, rv_of_rep hp.1 (hok 0 t _ rfl rfl) k1⟩
    | succ j => exact g3 j u a hj ha
  | [], _ :: _, _, _, _, h, _, _ => by simp [DataW.TrodAll] at h
  | _ :: _, [], _, _, _, h, _, _ => by simp [DataW.TrodAll] at h
  | _ :: _, _ :: _, [], _, _, h, _, _ => by simp [DataW.TrodAll] at h

/-- A law, called. -/
theorem cell_lt {w : World} {b o : Nat} {v : Value} (h : w.cell? ⟨b, o, none⟩ = some v) : b < w.heap.size :=
  rangeAt_lt (us := [v]) (o := o) (fun j x hj => by
    cases j with
    | zero => obtain rfl := Option.some.inj hj; exact h
    | succ j => simp at hj) (by simp)
theorem call_law {f : FuncId} {as : List Arg} {vs : Array Value} (hgb : ∀ b, gBlk = some b → ∃ m, w.cell? ⟨b, 0, none⟩ = some (.int .i64 m)) (hlen : as.length = vs.size) (hv : ∀ (j : Nat) v a, vs.toList[j]? = some v → as[j]? = some a → ∃ b l, a = .val b l ∧ Rep (fun b => b < w.heap.size) noU noL w v.cells.toList l [] ∧ RV (fun b => b < w.heap.size) noU noL w v (b, l))
    {vals : List (Bool × List Cell)} {outs : List (Option (List Cell))} (h : CallOK P f as vals outs) :
    Calls P f vs w fun e w' => ∃ xs, e = .returned (packV xs) ∧ (∃ G S, RVs S w' xs vals G) ∧ Below w.heap.size w w' := by
  have hnode : ∀ j, ndOf (as.map Arg.node) j = none := by
    intro j
    rw [node_get]
    cases ha : as[j]? with
    | none => rfl
    | some a =>
      have hj : j < vs.toList.length := by have := (List.getElem?_eq_some_iff.1 ha).1; simp; omega
      obtain ⟨b, l, rfl, _⟩ := hv j _ a (List.getElem?_eq_getElem hj) ha
      rfl
  have own : ∀ j, Own (ndOf (as.map Arg.node)) noL (fun _ => []) j = [] := fun j => by simp [Own, hnode]
  let k : Base := ⟨w, fun b => b < w.heap.size, []⟩
  have m : Mem k (ndOf (as.map Arg.node)) w noL (fun _ => []) (· < as.length) :=
    ⟨(fun b hb => ⟨hb, by simp [k]⟩), (fun b hb => by cases hb), (fun id nd hid => by rw [hnode] at hid; cases hid), (fun j => by rw [own]; exact List.nodup_nil), (fun i j _ b hb => by rw [own] at hb; cases hb), (fun j b hb => by rw [own] at hb; cases hb),
      (fun _ _ _ => rfl), rfl, rfl, rfl, Grows.refl _, (fun b hb => by obtain ⟨n, hn⟩ := hgb b hb; exact ⟨cell_lt hn, n, hn⟩)⟩
  have hS : ∀ b, b < w.heap.size → SS k (ndOf (as.map Arg.node)) noL (fun _ => []) w b := fun b hb => ⟨.inl hb, hb, fun j => by rw [own]; simp⟩
  refine (h k noL (fun _ => []) vs ⟨by omega, fun _ => hlen.symm⟩ m fun i => ?_).mono fun e w' he => ?_
  · have hg : (argTVs 0 as).getD i .undef = (((as[i]?).map fun a => a.tv i)).getD .undef := by
      rw [List.getD_eq_getElem?_getD, argTVs_get]; simp
    rw [hg]
    cases ha : as[i]? with
    | none => trivial
    | some a =>
      have hj : i < vs.toList.length := by have := (List.getElem?_eq_some_iff.1 ha).1; simp; omega
      obtain ⟨b, l, rfl, hr, hrv⟩ := hv i _ a (List.getElem?_eq_getElem hj) ha
      have hvi : vs.getD i undef = vs.toList[i] := by simp at hj; simp [Array.getD_eq_getD_getElem?, hj]
      rw [hvi]
      simp only [Option.map_some, Option.getD_some, Arg.tv]
      have free : ∀ {us : List Value}, Rep (fun b => b < w.heap.size) noU noL w us l [] → Rep (SS k (ndOf (as.map Arg.node)) noL (fun _ => []) w) (· < as.length) noL w us l [] := fun r =>
        r.carry (fun b hb => ⟨hS b hb, rfl⟩) (fun i hi => hi.elim) (by simp) (Grows.refl _)
      cases b with
      | false => exact free hrv
      | true => obtain ⟨ws, e, hrv⟩ := hrv; exact ⟨ws, e, free hrv⟩
  · obtain ⟨v, rfl, xs, G, Fo, rfl, fin⟩ := he
    exact ⟨xs, rfl, ⟨G, _, fin.res⟩, fin.os, fin.tape, fin.output, fin.grows.1, fun b hb => fin.frame b hb (by simp [k])⟩

theorem trodAll_back {W W' : World} (hl : laidOutB P = true) (hb : Below W.heap.size W W') : ∀ (ts : List TypeId) (vs : List Value) (ds : List (DataW H)) (ps : List MemPlace), (∀ t ∈ ts, P.readableRec t = true ∧ t < P.types.size) →
    DataW.TrodAll enc P W 0 (fun _ => true) true ts vs ds ps → (∀ x ∈ ps, x.block < W.heap.size) → DataW.TrodAll enc P W' 0 (fun b => decide (b < W.heap.size)) true ts vs ds ps
  | [], [], [], ps, _, h, _ => h
  | t :: ts, v :: vs, d :: ds, ps, ht, h, hlt => by
    obtain ⟨p, q, h1, h2, rfl⟩ := h
    exact ⟨p, q, Below.trod hl (ht t (by simp)).1 (ht t (by simp)).2 h1 hb (fun x hx => hlt x (by simp [hx])), trodAll_back hl hb ts vs ds q (fun u hu => ht u (by simp [hu])) h2 (fun x hx => hlt x (by simp [hx])), rfl⟩
  | [], [], _ :: _, _, _, h, _ => by simp [DataW.TrodAll] at h
  | [], _ :: _, _, _, _, h, _ => by simp [DataW.TrodAll] at h
  | _ :: _, [], _, _, _, h, _ => by simp [DataW.TrodAll] at h
  | _ :: _, _ :: _, [], _, _, h, _ => by simp [DataW.TrodAll] at h
end

/-- What a law's call does. -/
theorem law_calls {C : Checked} {f : FuncId} {fn : Func} {s : ChangeSpec} {fresh : Bool} {H : Type} {enc : TypeId × Value → H} {d : Nat} {rt : TypeId}
    (laid : laidOutB C.prog = true) (hvars : s.vars = []) (hread : ∀ t ∈ fn.params.toList, C.prog.readableRec t = true ∧ t < C.prog.types.size) (hplain : fn.params.toList.all (plainN C.prog d) = true)
    (hres : fn.resultTypes = #[rt]) (hbool : C.prog.underlying rt = some .bool)
    (hspec : ∀ ds : List (DataW H), ds.length = fn.params.size → s.fn H ds = { results := [.lit (.bool true)], args := ds })
    (hlaw : ∀ as, FitAll C.prog d fn.params.toList as → ∃ outs, CallOK C.prog f as [(false, [.prim (.bool true)])] outs)
    {W : World} {base : Nat} {args : Array Value} {ds gs : List (DataW H)} {before : List MemPlace}
    (hgb : ∀ b, gBlk = some b → ∃ m, W.cell? ⟨b, 0, none⟩ = some (.int .i64 m))
    (hval : ∀ (j : Nat) t v, fn.params[j]? = some t → args[j]? = some v → Value.okWide C.prog W .any base t v)
    (hW : DataW.Whole enc C.prog fn.params.toList s.vars false W args.toList ds gs before)
    (hsz : (DataW.weightsEach C.prog (fn.params.toList ++ s.plain.varTypes C.prog) (ds ++ gs)).all (· ≤ reachBytes) = true) :
    Calls C.prog f args W fun e W' => ∃ v, e = .returned v ∧ s.post enc C.prog fn false fresh false false W args v W' := by
  have hW' := hW
  obtain ⟨p, q, hA, hV, rfl, hfz, hnd⟩ := hW
  rw [hvars] at hV
  obtain ⟨rfl, rfl⟩ := trodVars_none hV
  have hsz' : (DataW.weightsEach C.prog fn.params.toList ds).all (· ≤ reachBytes) = true := by
    have : s.plain.varTypes C.prog = [] := by simp [ChangeSpec.plain, DataSpec.varTypes, hvars]
    simpa [this] using hsz
  obtain ⟨as, g1, g2, g3⟩ := fitAll_of (r := .any) (base := base) (d := d) fn.params.toList args.toList ds p hplain hA (fun j t v ht hv => hval j t v (by simpa using ht) (by simpa using hv)) hsz'
  obtain ⟨outs, hc⟩ := hlaw as g1
  refine (call_law (w := W) hgb (by simpa using g2) g3 hc).mono fun e W' ⟨xs, he, ⟨G, S, hr⟩, bel⟩ => ?_
  subst he
  have hx : xs = [.bool true] := by
    match xs, hr with
    | [x], hr =>
      obtain ⟨G1, G2, _, h1, _⟩ := hr
      have h1' : Rep S noU noL W' [x] [.prim (.bool true)] G1 := h1
      cases h1' with
      | prim _ _ => rfl
    | [], hr => exact hr.elim
    | _ :: _ :: _, hr => obtain ⟨_, _, _, _, h2⟩ := hr; exact h2.elim
  subst hx
  have hdl : ds.length = fn.params.size := by
    have : ∀ (ts : List TypeId) (vs : List Value) (ds : List (DataW H)) (ps : List MemPlace), DataW.TrodAll enc C.prog W 0 (fun _ => true) true ts vs ds ps → ds.length = ts.length := by
      intro ts
      induction ts with
      | nil => intro vs ds ps h; cases vs <;> cases ds <;> simp [DataW.TrodAll] at h ⊢
      | cons t ts ih => intro vs ds ps h; cases vs <;> cases ds <;> simp [DataW.TrodAll] at h ⊢; obtain ⟨_, _, _, h, _⟩ := h; exact ih _ _ _ h
    simpa using this _ _ _ _ hA
  have hsp : s.fn H (ds ++ []) = { results := [.lit (.bool true)], args := ds } := by rw [List.append_nil]; exact hspec ds hdl
  refine ⟨_, rfl, ds, [], p ++ [], [], p, [], hW', ?_, ?_, ?_, bel.frame _, fun h => by cases h⟩
  · rw [hsp, hres]
    exact trodAll_mk1 (shut_bool hbool _)
  · rw [hsp]
    exact trodAll_back laid bel _ _ _ _ hread hA (fun x hx => by simpa using hW'.lt x (by simp [hx]))
  · rw [hsp, hvars]
    rfl

/-- THE ROW OF A LAW. -/
theorem law_row {C : Checked} {os : Os} {f : FuncId} {fn : Func} {s : ChangeSpec} {fresh : Bool} {H : Type} {enc : TypeId × Value → H} {d : Nat} {rt : TypeId}
    (own : ownKnob C.prog.godebug = none) (started : os.Started) (noInit : C.prog.inits.idxOf? f = none) (hfn : C.prog.funcs[f]? = some fn)
    (witness : ∃ (w : World) (tape : Tape) (i : Input), w.os = os ∧ (w.forCall tape i).Shaped C.prog ∧ i.vars = [] ∧ Input.okWide C.prog (w.forCall tape i) .any w.heap.size f i ∧
      s.pre6 enc C.prog fn [] false (w.forCall tape i).memory i.args ∧ ({} : Assume).holds C.prog (lone (Frame.enter C.prog f i.args .normal) [] (w.forCall tape i)))
    (laid : laidOutB C.prog = true) (hvars : s.vars = []) (hread : ∀ t ∈ fn.params.toList, C.prog.readableRec t = true ∧ t < C.prog.types.size) (hplain : fn.params.toList.all (plainN C.prog d) = true)
    (hres : fn.resultTypes = #[rt]) (hbool : C.prog.underlying rt = some .bool)
    (hspec : ∀ ds : List (DataW H), ds.length = fn.params.size → s.fn H ds = { results := [.lit (.bool true)], args := ds })
    (hgb : ∀ W : World, W.ShapedOpen C.prog → ∀ b, gBlk = some b → ∃ m, W.cell? ⟨b, 0, none⟩ = some (.int .i64 m))
    (hlaw : ∀ as, FitAll C.prog d fn.params.toList as → ∃ outs, CallOK C.prog f as [(false, [.prim (.bool true)])] outs) :
    ReturnsInHanded {} C os f .any (s.pre6 enc C.prog fn [] false) (s.post enc C.prog fn false fresh false false) :=
  returnsInHanded_of_change_shaped own started noInit hfn witness fun W _ _ _ _ _ hval hW _ hsz hsh _ => law_calls laid hvars hread hplain hres hbool hspec hlaw (hgb W hsh) hval hW hsz

/-- The row of a law that lists variables: they are not looked at. -/
theorem law_rowL {C : Checked} {os : Os} {f : FuncId} {fn : Func} {s : ChangeSpec} {fresh : Bool} {H : Type} {enc : TypeId × Value → H} {d : Nat} {rt : TypeId} {X : World → Array Value → Prop}
    (own : ownKnob C.prog.godebug = none) (started : os.Started) (noInit : C.prog.inits.idxOf? f = none) (hfn : C.prog.funcs[f]? = some fn)
    (witness : ∃ (w : World) (tape : Tape) (i : Input), w.os = os ∧ (w.forCall tape i).Shaped C.prog ∧ i.vars = [] ∧ Input.okWide C.prog (w.forCall tape i) .any w.heap.size f i ∧
      ((s.pre enc C.prog fn [] false (w.forCall tape i).memory i.args ∧ X (w.forCall tape i).memory i.args) ∧ sizedMet enc C.prog fn (OpenSpec.ofChange s) false (w.forCall tape i).memory i.args) ∧ ({} : Assume).holds C.prog (lone (Frame.enter C.prog f i.args .normal) [] (w.forCall tape i)))
    (laid : laidOutB C.prog = true) (hvars : s.vars = []) (hread : ∀ t ∈ fn.params.toList, C.prog.readableRec t = true ∧ t < C.prog.types.size) (hplain : fn.params.toList.all (plainN C.prog d) = true)
    (hres : fn.resultTypes = #[rt]) (hbool : C.prog.underlying rt = some .bool)
    (hspec : ∀ ds : List (DataW H), ds.length = fn.params.size → s.fn H ds = { results := [.lit (.bool true)], args := ds })
    (hgb : ∀ W : World, W.ShapedOpen C.prog → ∀ b, gBlk = some b → ∃ m, W.cell? ⟨b, 0, none⟩ = some (.int .i64 m))
    (hlaw : ∀ as, FitAll C.prog d fn.params.toList as → ∃ outs, CallOK C.prog f as [(false, [.prim (.bool true)])] outs) :
    ReturnsInHanded {} C os f .any (fun w args => (s.pre enc C.prog fn [] false w args ∧ X w args) ∧ sizedMet enc C.prog fn (OpenSpec.ofChange s) false w args) (s.post enc C.prog fn false fresh false false) := by
  refine returnsInHanded_of_calls own started noInit witness ?_
  intro w tape i _ hsh _ hok hpre hholds
  obtain ⟨_, _, _, fn', hfn', _, _, _, _, hval⟩ := hok
  have e : fn' = fn := Option.some.inj (hfn'.symm.trans hfn)
  subst e
  obtain ⟨⟨⟨ds, gs, before, hw, hc⟩, hx⟩, hz⟩ := hpre
  have hw' := DataW.Whole.of_heap (w' := w.forCall tape i) (by rfl) hw
  refine (law_calls (fresh := fresh) laid hvars hread hplain hres hbool hspec hlaw (hgb _ hsh) hval hw' (hz.weights hw)).mono fun e W' ⟨v, he, hp⟩ => ?_
  subst he
  exact ChangeSpec.post_blind hp
end

end Go.Proofs.YtopnaijeicknoaaGreatDoor
