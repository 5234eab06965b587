/- Functions of the program, each with what it gives back. -/
import Derived.Test.YtopnaijeicknoaaGreatDoorKe
import Derived.Test.YtopnaijeicknoaaGreatDoorChecked
import Derived.IntWalk
import Derived.Test.YtopnaijeicknoaaGreatDoorM4
namespace Go.Proofs.YtopnaijeicknoaaGreatDoor
open Go Go.RowKit Go.IntWalk
open Enc (sz cs)
attribute [local irreducible] IntKind.wrap

/-! ### What an operation on right tables does -/
theorem atN_mem {plan : List Prt} {rows : List (List Vl)} {key : List Vl} {j : Nat} (h : atN plan rows key = j) : ∃ h : j < rows.length, pkR plan rows[j] = key := by
  have key2 : fstI rows.length (fun i => ∃ h : i < rows.length, pkR plan rows[i] = key) = -1 ∨ ∃ i, (∃ h : i < rows.length, pkR plan rows[i] = key) ∧ fstI rows.length (fun i => ∃ h : i < rows.length, pkR plan rows[i] = key) = (i : Int) := by
    unfold fstI
    split
    · rename_i hx
      exact .inr ⟨_, (Classical.choose_spec hx).2.1, rfl⟩
    · exact .inl rfl
  unfold atN at h
  rcases key2 with e | ⟨i, hi, e⟩
  · rw [e] at h; omega
  · rw [e] at h
    obtain rfl : i = j := by omega
    exact hi
theorem atN_nn {plan : List Prt} {rows : List (List Vl)} {key : List Vl} (h : ¬ 0 ≤ atN plan rows key) : atN plan rows key = -1 := by
  have key2 : fstI rows.length (fun i => ∃ h : i < rows.length, pkR plan rows[i] = key) = -1 ∨ ∃ i : Nat, fstI rows.length (fun i => ∃ h : i < rows.length, pkR plan rows[i] = key) = (i : Int) := by
    unfold fstI
    split
    · exact .inr ⟨_, rfl⟩
    · exact .inl rfl
  unfold atN at *
  rcases key2 with e | ⟨i, e⟩
  · exact e
  · rw [e] at h; omega
theorem key_inj {d : Df} {k : Nat} {rows : List (List Vl)} (h : ∀ j (hj : j < rows.length), RwI d k rows j hj) {i j : Nat} (hi : i < rows.length) (hj : j < rows.length) (e : pkR (ppN d) rows[i] = pkR (ppN d) rows[j]) : i = j := by
  rcases Nat.lt_trichotomy i j with q | q | q
  · obtain ⟨n, rfl⟩ : ∃ n, j = i + n + 1 := ⟨j - i - 1, by omega⟩
    exact absurd e (lk_ne (key_lt h n i hi hj))
  · exact q
  · obtain ⟨n, rfl⟩ : ∃ n, i = j + n + 1 := ⟨i - j - 1, by omega⟩
    exact absurd e.symm (lk_ne (key_lt h n j hj hi))
theorem at_iff {d : Df} {k : Nat} {rows : List (List Vl)} {key : List Vl} (h : ∀ j (hj : j < rows.length), RwI d k rows j hj) {i : Nat} (hi : i < rows.length) : ((i : Nat) : Int) = atN (ppN d) rows key ↔ pkR (ppN d) rows[i] = key := by
  constructor
  · intro q
    obtain ⟨_, e⟩ := atN_mem q.symm
    exact e
  · intro q
    exact (fstI_at hi ⟨hi, q⟩ (fun j hj p => by
      obtain ⟨hj2, p⟩ := p
      have := key_inj h hi hj2 (q.trans p.symm)
      omega)).symm
theorem tk_y {d : Df} {rows : List (List Vl)} {row : List Vl} {j : Nat} (hj : j < rows.length) (h : pkR (ppN d) rows[j] ≠ pkR (ppN d) row) (h2 : clN2 d rows[j] row = true) : tkN d rows row = true := by
  obtain ⟨i, hi, q⟩ := bOf_t h2
  exact bOf_y ⟨i, hi, q.uni, j, hj, q.by_, h⟩
theorem tk_n {d : Df} {rows : List (List Vl)} {row : List Vl} (h : ∀ j (hj : j < rows.length), pkR (ppN d) rows[j] ≠ pkR (ppN d) row → clN2 d rows[j] row = false) : tkN d rows row = false := bOf_n fun q => by
  obtain ⟨i, hi, q⟩ := q
  obtain ⟨j, hj, p⟩ := q.ex
  exact bOf_f (h j hj p.ne) ⟨i, hi, q.uni, p.by_⟩
/-- The row of a key is taken out. -/
theorem sgI_del {l : List Prt} {key row : List Vl} {rows : List (List Vl)} {j : Nat} (hj : j < rows.length) (h : pkR l rows[j] = key) (hn : ∀ i (hi : i < rows.length), pkR l rows[i] = key → i = j) : rows.foldl (sgI l key row) ([], true) = (rows.take j ++ rows.drop (j + 1), true) := by
  have e : rows = rows.take j ++ (rows[j] :: rows.drop (j + 1)) := by rw [← List.drop_eq_getElem_cons hj, List.take_append_drop]
  have h1 : (rows.take j).foldl (sgI l key row) ([], true) = ([] ++ rows.take j, true) := sgI_t fun r hr q => by
    obtain ⟨i, hi, rfl⟩ := List.getElem_of_mem hr
    simp only [List.length_take] at hi
    rw [List.getElem_take] at q
    have := hn i (by omega) q
    omega
  have h2 : (rows.drop (j + 1)).foldl (sgI l key row) (rows.take j, true) = (rows.take j ++ rows.drop (j + 1), true) := sgI_t fun r hr q => by
    obtain ⟨i, hi, rfl⟩ := List.getElem_of_mem hr
    simp only [List.length_drop] at hi
    rw [List.getElem_drop] at q
    have := hn (j + 1 + i) (by omega) q
    omega
  have h3 : sgI l key row (rows.take j, true) rows[j] = (rows.take j, true) := by simp only [sgI, if_pos h]
  calc rows.foldl (sgI l key row) ([], true) = (rows.take j ++ (rows[j] :: rows.drop (j + 1))).foldl (sgI l key row) ([], true) := by rw [← e]
    _ = _ := by rw [List.foldl_append, h1, List.nil_append, List.foldl_cons, h3, h2]
noncomputable abbrev sgT (l : List Prt) (key row : List Vl) (b : Bool) (rows : List (List Vl)) (i : Nat) : List (List Vl) × Bool := (rows.take i).foldl (sgI l key row) ([], b)
theorem sgT_suc {l : List Prt} {key row : List Vl} {b : Bool} {rows : List (List Vl)} {i : Nat} {x y : List (List Vl) × Bool} (h : i < rows.length) (e : sgT l key row b rows i = x) (e2 : sgI l key row x rows[i] = y) : sgT l key row b rows (i + 1) = y := by
  unfold sgT at *
  rw [take_one h, List.foldl_append, e]
  exact e2
theorem sgI_e {l : List Prt} {key row r : List Vl} {x : List (List Vl) × Bool} (h : pkR l r = key) : sgI l key row x r = x := if_pos h
theorem sgI_p {l : List Prt} {key row r : List Vl} {out : List (List Vl)} (h : ¬ pkR l r = key) : sgI l key row (out, true) r = (out ++ [r], true) := by
  simp only [sgI, if_neg h, Bool.true_eq_false, false_and, if_false]
theorem sgI_y {l : List Prt} {key row r : List Vl} {out : List (List Vl)} (h : ¬ pkR l r = key) (h2 : lkK l key (pkR l r) = true) : sgI l key row (out, false) r = (out ++ [row, r], true) := by
  simp only [sgI, if_neg h, h2, and_self, if_true]
theorem sgI_n {l : List Prt} {key row r : List Vl} {out : List (List Vl)} (h : ¬ pkR l r = key) (h2 : lkK l key (pkR l r) = false) : sgI l key row (out, false) r = (out ++ [r], false) := by
  simp only [sgI, if_neg h, h2, Bool.false_eq_true, and_false, if_false]
theorem sgT_len {l : List Prt} {key row : List Vl} {b : Bool} {rows : List (List Vl)} : ∀ {i : Nat}, i ≤ rows.length → (sgT l key row b rows i).1.length ≤ 2 * i
  | 0, _ => by simp [sgT]
  | i + 1, h => by
    have ih := sgT_len (l := l) (key := key) (row := row) (b := b) (i := i) (Nat.le_of_succ_le h)
    rw [sgT_suc (b := b) (x := sgT l key row b rows i) h rfl rfl]
    generalize sgT l key row b rows i = x at *
    unfold sgI
    split
    · omega
    · split <;> simp only [List.length_append, List.length_cons, List.length_nil] <;> omega
/-- A fresh slice that is put within as one that is only read. -/
theorem w_inF {α : Type} [Enc α] {n : Nat} {t h nx tn} (o : Bool) (i j : Nat) (A : List Cell) (xs : List α) (C : List Cell) (k s : Nat) {cs0 cs1 : List Cell} (h2 : A ++ [slE false xs] ++ C = cs1) (hij : Nat.beq i j = false := by rfl) (hi : look none h i = some (true, cs0) := by rfl) (hj : look none h j = some (true, cs o xs) := by rfl)
    (h1 : cs0 = A ++ [.ref j 0 k s] ++ C := by first | rfl | simp) (hk : xs.length = k := by first | rfl | simp) (hs : sz α = s := by rfl) :
    WGh n ⟨t, h, nx, tn⟩ ⟨t, (i, some (true, cs1)) :: (j, some (false, cs false xs)) :: h, nx, tn⟩ := by
  subst hk hs h1 h2
  have hne : ¬ j = i := fun e => by subst e; simp at hij
  refine (w_freeze j hj (cs_ro xs)).trans (w_node i (by rw [look_cons, if_neg hne]; exact hi) ?_)
  refine CWs.app (CWs.app (CWs.refl _) (.cons ?_ .nil)) (CWs.refl _)
  have e : slE false xs = .sl false xs.length (sz α) (((cs false xs).drop 0).take (xs.length * sz α)) := by rw [cs_whole]
  rw [e]
  exact .look (by rw [look_cons, if_pos rfl]) (by rw [cs_len]; omega) (by rw [cs_whole]; exact cs_shal xs)
/-- A slice in a variable is only read from here on. -/
theorem w_tmpF {α : Type} [Enc α] {n : Nat} {t h nx tn} (o : Bool) (a j : Nat) (xs : List α) (k s : Nat) (hi : look .undef t a = .v false [.ref j 0 k s] := by rfl) (hj : look none h j = some (true, cs o xs) := by rfl) (hk : xs.length = k := by first | rfl | simp) (hs : sz α = s := by rfl) (hlt : Nat.blt a tn = true := by rfl) :
    WGh n ⟨t, h, nx, tn⟩ ⟨(a, .v false [slE false xs]) :: t, (j, some (false, cs false xs)) :: h, nx, tn⟩ := by
  subst hk hs
  refine (w_freeze j hj (cs_ro xs)).trans (w_tmp a hi hlt ?_)
  have e : slE false xs = .sl false xs.length (sz α) (((cs false xs).drop 0).take (xs.length * sz α)) := by rw [cs_whole]
  rw [e]
  exact .v (.cons (.look (by rw [look_cons, if_pos rfl]) (by rw [cs_len]; omega) (by rw [cs_whole]; exact cs_shal xs)) .nil)
theorem ptTab {m : Tbs} {k : Nat} {c : List Cell} (h : k < m.length) (hc : c.length = 1 := by rfl) : put (cs true m) (k * 1) c = some (cs true (m.take k) ++ c ++ cs true (m.drop (k + 1))) := by
  show put (cs true m) (k * sz (List (List Vl))) c = _
  rw [cs_split h, ← Nat.add_zero (k * sz (List (List Vl))), put_mid (cs_take_len (by omega)).symm (put_all (by rw [Enc.len, hc]; rfl))]
theorem csTab {m : Tbs} {k : Nat} {y : List (List Vl)} (h : k < m.length) : roifyL (cs true (m.take k) ++ [slE false y] ++ cs true (m.drop (k + 1))) = cs false (m.set k y) := by
  have e : m.set k y = m.take k ++ [y] ++ m.drop (k + 1) := by
    rw [List.set_eq_take_append_cons_drop, if_pos h]; simp
  have e2 : roifyL [slE false y] = cs false [y] := cs_ro (o := false) [y]
  rw [e, roifyL_append, roifyL_append, cs_ro, cs_ro, Enc.app, Enc.app, e2]

end Go.Proofs.YtopnaijeicknoaaGreatDoor
