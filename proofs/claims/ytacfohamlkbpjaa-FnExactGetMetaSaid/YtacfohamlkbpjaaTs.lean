/- A call as an operation. -/
import Derived.Test.YtacfohamlkbpjaaTr
namespace Go.Proofs.Ytacfohamlkbpjaa
open Go Go.RowKit

section
variable {k : Base} {h : Nat → Option Node} {w : World} {L : Nat → Nat × Nat} {F : Nat → List Nat} {U : Nat → Prop} {P : Program}

/-- Where the nodes lie behind the call. -/
def aftL (L : Nat → Nat × Nat) (nid : Nat) (locs : Locs) (x : Nat) : Nat × Nat :=
  if nid ≤ x then match locs[x - nid]? with | some p => p.1 | none => L x else L x

def aftF (F : Nat → List Nat) (nid : Nat) (locs : Locs) (ow : List (Option Nat)) (Fo : Nat → List Nat) (x : Nat) : List Nat :=
  if nid ≤ x then match locs[x - nid]? with
    | some p => p.2.1
    | none => if some x ∈ ow then Fo (ow.idxOf (some x)) else F x
  else if some x ∈ ow then Fo (ow.idxOf (some x)) else F x

theorem flatMap_nodup_get : ∀ {locs : Locs}, locs.blocks.Nodup → ∀ (i : Nat) p, locs[i]? = some p → p.2.2.Nodup
  | [], _, i, p, h => by simp at h
  | q :: locs, hn, 0, p, h => by
    obtain rfl := Option.some.inj h
    simp only [Locs.blocks, List.flatMap_cons] at hn
    exact (List.nodup_append.1 hn).1
  | q :: locs, hn, i + 1, p, h => by
    simp only [Locs.blocks, List.flatMap_cons] at hn
    exact flatMap_nodup_get (locs := locs) (List.nodup_append.1 hn).2.1 i p h

theorem flatMap_nodup_disj : ∀ {locs : Locs}, locs.blocks.Nodup → ∀ (i j : Nat) p q, i ≠ j → locs[i]? = some p → locs[j]? = some q → ∀ b ∈ p.2.2, b ∉ q.2.2
  | [], _, i, j, p, q, _, h, _ => by simp at h
  | x :: locs, hn, i, j, p, q, hij, hp, hq => by
    intro b hb hc
    simp only [Locs.blocks, List.flatMap_cons] at hn
    obtain ⟨n1, n2, n3⟩ := List.nodup_append.1 hn
    cases i with
    | zero =>
      obtain rfl := Option.some.inj hp
      cases j with
      | zero => exact hij rfl
      | succ j => exact n3 b hb b (List.mem_flatMap.2 ⟨q, List.mem_of_getElem? (show locs[j]? = some q from hq), hc⟩) rfl
    | succ i =>
      cases j with
      | zero =>
        obtain rfl := Option.some.inj hq
        exact n3 b hc b (List.mem_flatMap.2 ⟨p, List.mem_of_getElem? (show locs[i]? = some p from hp), hb⟩) rfl
      | succ j => exact flatMap_nodup_disj (locs := locs) n2 i j p q (fun e => hij (by rw [e])) hp hq b hb hc

theorem mem_blocks {locs : Locs} {i : Nat} {p : (Nat × Nat) × List Nat × List Nat} (hp : locs[i]? = some p) {b : Nat} (hb : b ∈ p.2.2) : b ∈ locs.blocks :=
  List.mem_flatMap.2 ⟨p, List.mem_of_getElem? hp, hb⟩

theorem idx_of {ow : List (Option Nat)} {j x : Nat} (hn : (ow.filterMap (fun x => x)).Nodup) (hj : ow[j]? = some (some x)) : ow.idxOf (some x) = j := by
  have hm : some x ∈ ow := List.mem_of_getElem? hj
  have hi : ow[ow.idxOf (some x)]? = some (some x) := by
    rw [List.getElem?_eq_getElem (List.idxOf_lt_length_iff.2 hm)]
    simp
  have uniq : ∀ (o : List (Option Nat)) (i j : Nat), (o.filterMap (fun x => x)).Nodup → o[i]? = some (some x) → o[j]? = some (some x) → i = j := by
    intro o
    induction o with
    | nil => intro i j _ h1; simp at h1
    | cons a o ih =>
      intro i j hn h1 h2
      cases i with
      | zero =>
        cases j with
        | zero => rfl
        | succ j =>
          obtain rfl := Option.some.inj h1
          exact absurd (List.mem_of_getElem? (show o[j]? = some (some x) from h2)) (not_mem_of_nodup hn)
      | succ i =>
        cases j with
        | zero =>
          obtain rfl := Option.some.inj h2
          exact absurd (List.mem_of_getElem? (show o[i]? = some (some x) from h1)) (not_mem_of_nodup hn)
        | succ j => rw [ih i j (nodup_tail hn) h1 h2]
  exact uniq ow _ _ hn hi hj

/-- The memory behind a call. -/
theorem call_end (m : Mem k h w L F U) {sn : List Nat} {ow : List (Option Nat)} {vals : List (Bool × List Cell)} {outs : List (Option (List Cell))} {xs : List Value} {G : List Nat} {Fo : Nat → List Nat} {w' : World} {nid : Nat}
    (hnd : (ow.filterMap (fun x => x)).Nodup) (how : ∀ (j x : Nat), ow[j]? = some (some x) → ∃ cs, h x = some (true, cs))
    (hfr : ∀ j, j < 16 → h (nid + j) = none ∧ ¬ U (nid + j)) (hcnt : (ownsV vals).length ≤ 16) (hpure : sn = [] ∨ pureV vals outs = true)
    (fin : FinOK (callBase k h w L F sn ow) (callL L ow) vals outs xs G Fo w') :
    ∃ L' F' U', Mem k (ups h (backU ow outs ++ newU nid (ownsV vals))) w' L' F' U' ∧ Mono k h w L F U (ups h (backU ow outs ++ newU nid (ownsV vals))) w' L' F' U' ∧
      (∀ i, U' i → U i ∨ i ∈ (backU ow outs ++ newU nid (ownsV vals)).map (·.1)) ∧
      xs.length = (placeV nid vals).length ∧ ∀ (i : Nat) x v, xs[i]? = some x → (placeV nid vals)[i]? = some v → RV (SS k (ups h (backU ow outs ++ newU nid (ownsV vals))) L' F' w') U' L' w' x v := by
  obtain ⟨locs, eG, hlocs, hplace⟩ := placeV_rep fin.res nid
  have hll := hlocs.1
  let h' := ups h (backU ow outs ++ newU nid (ownsV vals))
  let L' := aftL L nid locs
  let F' := aftF F nid locs ow Fo
  let U' : Nat → Prop := fun i => U i ∨ (nid ≤ i ∧ i < nid + (ownsV vals).length)
  have hUn : ∀ i, U i → ¬ (nid ≤ i ∧ i < nid + (ownsV vals).length) := fun i hi hc => (hfr (i - nid) (by omega)).2 (by rw [show nid + (i - nid) = i by omega]; exact hi)
  have howU : ∀ (j x : Nat), ow[j]? = some (some x) → U x := fun j x hj => by obtain ⟨cs, hc⟩ := how j x hj; exact (m.node x _ hc).1
  have hout : ∀ x, ¬ (nid ≤ x ∧ x < nid + (ownsV vals).length) → h' x = ups h (backU ow outs) x := fun x hx => by
    show ups h (backU ow outs ++ newU nid (ownsV vals)) x = _
    rw [ups_append, newU_other (by omega)]
  have hnew : ∀ i c, (ownsV vals)[i]? = some c → h' (nid + i) = some (true, c) := fun i c hc => by
    show ups h (backU ow outs ++ newU nid (ownsV vals)) (nid + i) = _
    rw [ups_append]; exact newU_at hc
  have hsame : ∀ x, ¬ (nid ≤ x ∧ x < nid + (ownsV vals).length) → some x ∉ ow → h' x = h x := fun x hx hm => by rw [hout x hx, backU_other hm]
  have hback : ∀ j x, ow[j]? = some (some x) → h' x = (outs[j]?).join.map fun c => (true, c) := fun j x hj => by rw [hout x (hUn x (howU j x hj)), backU_at hnd hj]
  have eL : ∀ x, ¬ (nid ≤ x ∧ x < nid + (ownsV vals).length) → L' x = L x := fun x hx => by
    show aftL L nid locs x = L x
    unfold aftL
    split
    · rw [List.getElem?_eq_none (by omega)]
    · rfl
  have eLn : ∀ (i : Nat) p, locs[i]? = some p → L' (nid + i) = p.1 := fun i p hp => by
    show aftL L nid locs (nid + i) = p.1
    unfold aftL
    rw [if_pos (by omega), show nid + i - nid = i by omega, hp]
  have eFn : ∀ (i : Nat) p, locs[i]? = some p → F' (nid + i) = p.2.1 := fun i p hp => by
    show aftF F nid locs ow Fo (nid + i) = p.2.1
    unfold aftF
    rw [if_pos (by omega), show nid + i - nid = i by omega, hp]
  have eF0 : ∀ x, ¬ (nid ≤ x ∧ x < nid + (ownsV vals).length) → F' x = if some x ∈ ow then Fo (ow.idxOf (some x)) else F x := fun x hx => by
    show aftF F nid locs ow Fo x = _
    unfold aftF
    split
    · rw [List.getElem?_eq_none (by omega)]
    · rfl
  have eF : ∀ x, ¬ (nid ≤ x ∧ x < nid + (ownsV vals).length) → some x ∉ ow → F' x = F x := fun x hx hm => by rw [eF0 x hx, if_neg hm]
  have eFb : ∀ j x, ow[j]? = some (some x) → F' x = Fo j := fun j x hj => by rw [eF0 x (hUn x (howU j x hj)), if_pos (List.mem_of_getElem? hj), idx_of hnd hj]
  have cL : ∀ j x, ow[j]? = some (some x) → callL L ow j = L x := fun j x hj => by simp [callL, hj]
  -- what is owned behind the call
  have own : ∀ x, Own h' L' F' x = [] ∨ (∃ (i : Nat) (p : (Nat × Nat) × List Nat × List Nat), x = nid + i ∧ locs[i]? = some p ∧ Own h' L' F' x = p.2.2) ∨ (∃ (j : Nat) (c : List Cell), ow[j]? = some (some x) ∧ outs[j]? = some (some c) ∧ Own h' L' F' x = OutOwn (callL L ow) Fo outs j) ∨
      (¬ (nid ≤ x ∧ x < nid + (ownsV vals).length) ∧ some x ∉ ow ∧ Own h' L' F' x = Own h L F x) := by
    intro x
    by_cases hx : nid ≤ x ∧ x < nid + (ownsV vals).length
    · have hi : x - nid < (ownsV vals).length := by omega
      have hp : locs[x - nid]? = some (locs[x - nid]'(by omega)) := List.getElem?_eq_getElem _
      have hc : (ownsV vals)[x - nid]? = some ((ownsV vals)[x - nid]) := List.getElem?_eq_getElem hi
      have h1 := hnew _ _ hc
      have h2 := eLn _ _ hp
      have h3 := eFn _ _ hp
      have ex : nid + (x - nid) = x := by omega
      rw [ex] at h1 h2 h3
      exact .inr (.inl ⟨x - nid, _, ex.symm, hp, by rw [own_of h1, h2, h3]; exact (hlocs.2 _ _ _ hp hc).elim fun vs q => q.2.2.2.2.symm⟩)
    · by_cases hm : some x ∈ ow
      · obtain ⟨j, hj⟩ := List.getElem?_of_mem hm
        have hb := hback j x hj
        cases ho : outs[j]? with
        | none => left; rw [ho] at hb; simp at hb; simp [Own, hb]
        | some o =>
          cases o with
          | none => left; rw [ho] at hb; simp at hb; simp [Own, hb]
          | some c =>
            rw [ho] at hb
            simp at hb
            refine .inr (.inr (.inl ⟨j, c, hj, ho, ?_⟩))
            rw [own_of hb, eL x hx, eFb j x hj]
            simp [OutOwn, ho, cL j x hj]
      · refine .inr (.inr (.inr ⟨hx, hm, ?_⟩))
        simp only [Own, hsame x hx hm, eL x hx, eF x hx hm]
  have outJ : ∀ {x j c}, ow[j]? = some (some x) → outs[j]? = some (some c) → ∀ b ∈ OutOwn (callL L ow) Fo outs j, b ∉ G := fun {x j c} _ _ b hb => fin.disjG j b hb
  have inB0 : ∀ {b}, b ∈ (callBase k h w L F sn ow).B0 → ∃ (j id : Nat), ow[j]? = some (some id) ∧ b ∈ Own h L F id := by
    intro b hb
    obtain ⟨id, h1, h2⟩ := List.mem_flatMap.1 hb
    obtain ⟨o, h3, h4⟩ := List.mem_filterMap.1 h1
    obtain ⟨j, hj⟩ := List.getElem?_of_mem h3
    exact ⟨j, id, by rw [hj, ← h4]; rfl, h2⟩
  -- a block that comes back is owned by none of the others
  have keepO : ∀ x, some x ∉ ow → ∀ b ∈ Own h L F x, (w.heap.size ≤ b ∨ b ∈ (callBase k h w L F sn ow).B0) → False := fun x hx b hb hc => by
    rcases hc with hc | hc
    · have := Own.lt m hb; omega
    · obtain ⟨j, id, h1, h2⟩ := inB0 hc
      by_cases e : x = id
      · subst e; exact hx (List.mem_of_getElem? h1)
      · exact m.disj x id e b hb h2
  have hown : ∀ x, ∀ b ∈ Own h' L' F' x, (∃ j, b ∈ Own h L F j) ∨ w.heap.size ≤ b := by
    intro x b hb
    have conv : (w.heap.size ≤ b ∨ b ∈ (callBase k h w L F sn ow).B0) → (∃ j, b ∈ Own h L F j) ∨ w.heap.size ≤ b := fun hc => by
      rcases hc with hc | hc
      · exact .inr hc
      · obtain ⟨_, id, _, h2⟩ := inB0 hc; exact .inl ⟨id, h2⟩
    rcases own x with e | ⟨i, p, _, hp, e⟩ | ⟨j, c, h1, h2, e⟩ | ⟨_, _, e⟩
    · rw [e] at hb; cases hb
    · rw [e] at hb; exact conv (fin.inG b (by rw [eG]; exact mem_blocks hp hb))
    · rw [e] at hb; exact conv (fin.inO j b hb)
    · rw [e] at hb; exact .inl ⟨x, hb⟩
  have hnG : locs.blocks.Nodup := by rw [← eG]; exact fin.nodup
  have nodup : ∀ x, (Own h' L' F' x).Nodup := by
    intro x
    rcases own x with e | ⟨i, p, _, hp, e⟩ | ⟨j, c, h1, h2, e⟩ | ⟨_, _, e⟩
    · rw [e]; simp
    · rw [e]; exact flatMap_nodup_get hnG i p hp
    · rw [e]; exact fin.nodupO j
    · rw [e]; exact m.nodup x
  have disj : ∀ x y, x ≠ y → ∀ b ∈ Own h' L' F' x, b ∉ Own h' L' F' y := by
    intro x y hxy b hb hc
    rcases own x with e | ⟨i, p, ex, hp, e⟩ | ⟨j, c, h1, h2, e⟩ | ⟨_, hx2, e⟩
    · rw [e] at hb; cases hb
    · rw [e] at hb
      have hbG : b ∈ G := by rw [eG]; exact mem_blocks hp hb
      rcases own y with e' | ⟨i', p', ey, hp', e'⟩ | ⟨j', c', h1', h2', e'⟩ | ⟨_, hy2, e'⟩
      · rw [e'] at hc; cases hc
      · rw [e'] at hc; exact flatMap_nodup_disj hnG i i' p p' (fun q => hxy (by rw [ex, ey, q])) hp hp' b hb hc
      · rw [e'] at hc; exact fin.disjG j' b hc hbG
      · rw [e'] at hc; exact keepO y hy2 b hc (fin.inG b hbG)
    · rw [e] at hb
      rcases own y with e' | ⟨i', p', ey, hp', e'⟩ | ⟨j', c', h1', h2', e'⟩ | ⟨_, hy2, e'⟩
      · rw [e'] at hc; cases hc
      · rw [e'] at hc; exact fin.disjG j b hb (by rw [eG]; exact mem_blocks hp' hc)
      · rw [e'] at hc
        exact fin.disj j j' (fun q => hxy (by subst q; rw [h1] at h1'; exact Option.some.inj (Option.some.inj h1'))) b hb hc
      · rw [e'] at hc; exact keepO y hy2 b hc (fin.inO j b hb)
    · rw [e] at hb
      rcases own y with e' | ⟨i', p', ey, hp', e'⟩ | ⟨j', c', h1', h2', e'⟩ | ⟨_, hy2, e'⟩
      · rw [e'] at hc; cases hc
      · rw [e'] at hc; exact keepO x hx2 b hb (fin.inG b (by rw [eG]; exact mem_blocks hp' hc))
      · rw [e'] at hc; exact keepO x hx2 b hb (fin.inO j' b hc)
      · rw [e'] at hc; exact m.disj x y hxy b hb hc
  have hUL : ∀ i, U i → U' i ∧ L' i = L i := fun i hi => ⟨.inl hi, eL i (hUn i hi)⟩
  have hat : LocsAt nid locs U' L' := fun i p hp => ⟨.inr ⟨by omega, by have := (List.getElem?_eq_some_iff.1 hp).1; omega⟩, eLn i p hp⟩
  have hfin : ∀ b, sn = [] → FinS (callBase k h w L F sn ow) (callL L ow) outs G Fo w' b → SS k h' L' F' w' b := by
    intro b hsn hb
    refine ⟨?_, hb.2.1, fun x hx => ?_⟩
    · rcases hb.1 with h1 | h1 | h1
      · rcases h1 with h1 | ⟨id, hid, _⟩
        · exact h1.1
        · rw [hsn] at hid; cases hid
      · obtain ⟨_, id, _, h2⟩ := inB0 h1
        exact (m.inB id b h2).elim (fun q => .inr (.inr q)) (fun q => .inr (.inl q))
      · exact .inr (.inr (Nat.le_trans m.grows.1 h1))
    · rcases own x with e | ⟨i, p, _, hp, e⟩ | ⟨j, c, h1, h2, e⟩ | ⟨_, hx2, e⟩
      · rw [e] at hx; cases hx
      · rw [e] at hx; exact hb.2.2.1 (by rw [eG]; exact mem_blocks hp hx)
      · rw [e] at hx; exact hb.2.2.2 j hx
      · rw [e] at hx
        rcases hb.1 with h1 | h1 | h1
        · rcases h1 with h1 | ⟨id, hid, _⟩
          · exact h1.2.2 x hx
          · rw [hsn] at hid; cases hid
        · exact keepO x hx2 b hx (.inr h1)
        · exact keepO x hx2 b hx (.inl h1)
  obtain ⟨m', mo⟩ := m.master (h' := h') (w' := w') (L' := L') (F' := F') (U' := U') fin.grows fin.os fin.tape fin.output hown nodup disj
    (fun b hb hn => fin.frame b hb (fun hc => by obtain ⟨_, id, _, h2⟩ := inB0 hc; exact hn id h2)) hUL
    (fun mo x nd hx => by
      by_cases hxn : nid ≤ x ∧ x < nid + (ownsV vals).length
      · have hi : x - nid < (ownsV vals).length := by omega
        have hp : locs[x - nid]? = some (locs[x - nid]'(by omega)) := List.getElem?_eq_getElem _
        have hc : (ownsV vals)[x - nid]? = some ((ownsV vals)[x - nid]) := List.getElem?_eq_getElem hi
        have ex : nid + (x - nid) = x := by omega
        have h1 := hnew _ _ hc
        have h2 := eLn _ _ hp
        have h3 := eFn _ _ hp
        rw [ex] at h1 h2 h3
        rw [h1] at hx
        obtain rfl := Option.some.inj hx
        obtain ⟨vs, q1, q2, q3, q4, _⟩ := hlocs.2 _ _ _ hp hc
        rw [h2, h3]
        refine ⟨.inr hxn, vs, q1, ?_, q3, fun e => by cases e⟩
        rcases hpure with hsn | hpu
        · exact (rep_sub q2 (fun b => hfin b hsn)).free q4
        · have hall : ∀ (vs : List (Bool × List Cell)) (c : List Cell), vs.all (fun p => pureL p.2) = true → c ∈ ownsV vs → pureL c = true := by
            intro vs c
            induction vs with
            | nil => intro _ hm; cases hm
            | cons v vs ih =>
              intro ha hm
              simp only [List.all_cons, Bool.and_eq_true] at ha
              rcases List.mem_append.1 hm with hm | hm
              · have hl : ∀ (l : List Cell), pureL l = true → c ∈ ownsL l → pureL c = true := by
                  intro l
                  induction l with
                  | nil => intro _ hm; cases hm
                  | cons a l ihl =>
                    intro hp' hm'
                    simp only [pureL, Bool.and_eq_true] at hp'
                    cases a with
                    | sl o n s l' =>
                      cases o with
                      | true =>
                        rcases List.mem_cons.1 hm' with rfl | hm'
                        · simpa [Cell.pure] using hp'.1
                        · exact ihl hp'.2 hm'
                      | false => exact ihl hp'.2 hm'
                    | _ => exact ihl hp'.2 hm'
                exact hl v.2 ha.1 hm
              · exact ih ha.2 hm
          have hv : vals.all (fun p => pureL p.2) = true := by unfold pureV at hpu; simp only [Bool.and_eq_true] at hpu; exact hpu.1
          exact (rep_pure q2 (hall vals _ hv (List.mem_of_getElem? hc)) _).free q4
      · by_cases hm : some x ∈ ow
        · obtain ⟨j, hj⟩ := List.getElem?_of_mem hm
          have hb := hback j x hj
          have hx' : h' x = some nd := hx
          rw [hb] at hx'
          cases ho : outs[j]? with
          | none => rw [ho] at hx'; simp at hx'
          | some o =>
            cases o with
            | none => rw [ho] at hx'; simp at hx'
            | some c =>
              rw [ho] at hx'
              simp at hx'
              subst hx'
              obtain ⟨us, q1, q2, q3, hcl⟩ := fin.back j c ho
              rw [cL j x hj] at q1 q3
              rw [eL x hxn, eFb j x hj]
              refine ⟨.inl (howU j x hj), us, q1, ?_, q3, fun e => by cases e⟩
              rcases hpure with hsn | hpu
              · exact (rep_sub q2 (fun b => hfin b hsn)).free hcl
              · have hv : pureL c = true := by
                  unfold pureV at hpu
                  simp only [Bool.and_eq_true] at hpu
                  exact List.all_eq_true.1 hpu.2 _ (List.mem_of_getElem? ho)
                exact (rep_pure q2 hv _).free hcl
        · have hx' : h' x = some nd := hx
          rw [hsame x hxn hm] at hx'
          refine m.keep mo hx' (eF x hxn hm) (fun b hb => ?_)
          exact fin.frame b (Own.lt m hb) (fun hc => keepO x hm b hb (.inr hc)))
  refine ⟨L', F', U', m', mo, fun i hi => hi.imp_right fun hc => ?_, ?_⟩
  · rw [List.map_append, List.mem_append]; right; exact newU_ids.2 hc
  · refine hplace _ U' L' ?_ hat
    rcases hpure with hsn | hpu
    · exact .inl (fun b => hfin b hsn)
    · right; unfold pureV at hpu; simp only [Bool.and_eq_true] at hpu; exact hpu.1
end

end Go.Proofs.Ytacfohamlkbpjaa
