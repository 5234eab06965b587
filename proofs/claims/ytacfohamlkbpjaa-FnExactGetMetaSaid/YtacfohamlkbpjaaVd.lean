/- What comes into a law, as the program's data. -/
import Derived.Test.YtacfohamlkbpjaaVc
namespace Go.Proofs.Ytacfohamlkbpjaa
open Go Go.RowKit Go.IntWalk
open Enc (sz cs)

theorem reps_list {α : Type} [Enc α] {R : List Cell → Prop} {Q : α → Prop} (hR : ∀ l, R l → ∃ x : α, l = cs false [x] ∧ Q x) : ∀ {n : Nat} {l : List Cell}, Reps R n l → ∃ xs : List α, xs.length = n ∧ l = cs false xs ∧ ∀ x ∈ xs, Q x
  | _, _, .nil => ⟨[], rfl, by rw [Enc.nil], fun x hx => by cases hx⟩
  | _, _, .cons (l := l) h1 h2 => by
    obtain ⟨x, rfl, hq⟩ := hR _ h1
    obtain ⟨xs, e1, rfl, h3⟩ := reps_list hR h2
    refine ⟨x :: xs, by simp [e1], (cs_cons x xs).symm, fun y hy => ?_⟩
    rcases List.mem_cons.1 hy with rfl | hy
    · exact hq
    · exact h3 y hy

section
variable {P : Program} {d : Nat} {t e : TypeId} {l : List Cell}
theorem fit_sl {α : Type} [Enc α] {Q : α → Prop} (h : fitN P (d + 1) t l) (hu : P.underlying t = some (.slice e)) (hc : P.cellsOf e = sz α) (hR : ∀ l, fitN P d e l → ∃ x : α, l = cs false [x] ∧ Q x) :
    ∃ xs : List α, l = [slE false xs] ∧ xs.length * P.bytesOf e ≤ reachBytes ∧ ∀ x ∈ xs, Q x := by
  unfold fitN at h
  rw [hu] at h
  obtain ⟨n, l', rfl, h1, h2⟩ := h
  obtain ⟨xs, rfl, rfl, h3⟩ := reps_list hR h2
  exact ⟨xs, by rw [hc], h1, h3⟩
theorem fit_int (h : fitN P (d + 1) t l) (hu : P.underlying t = some (.int .i64)) : ∃ n : Int, l = [i6 n] ∧ (Lit.int .i64 n).wf = true := by
  unfold fitN at h
  rw [hu] at h; exact h
theorem fit_int' (h : fitN P (d + 1) t l) (hu : P.underlying t = some (.int .i64)) : ∃ n : Int, l = cs false [n] ∧ (Lit.int .i64 n).wf = true := fit_int h hu
theorem fit_u8 (h : fitN P (d + 1) t l) (hu : P.underlying t = some (.int .u8)) : ∃ n : UInt8, l = cs false [n] ∧ True := by
  unfold fitN at h
  rw [hu] at h
  obtain ⟨n, rfl, h⟩ := h
  refine ⟨UInt8.ofNat n.toNat, ?_, trivial⟩
  have : 0 ≤ n ∧ n < 256 := by
    have h2 : (decide (IntKind.u8.min ≤ n) && decide (n ≤ IntKind.u8.max)) = true := h
    rw [Bool.and_eq_true, decide_eq_true_eq, decide_eq_true_eq] at h2
    have h3 : IntKind.u8.min = 0 := rfl
    have h4 : IntKind.u8.max = 255 := rfl
    omega
  show _ = [Cell.prim (.int .u8 ((UInt8.ofNat n.toNat).toNat : Int))]
  rw [UInt8.toNat_ofNat', show ((n.toNat % 2 ^ 8 : Nat) : Int) = n by omega]
theorem fit_bool (h : fitN P (d + 1) t l) (hu : P.underlying t = some .bool) : ∃ b : Bool, l = [b1 b] := by
  unfold fitN at h
  rw [hu] at h; exact h
theorem fit_str (h : fitN P (d + 1) t l) (hu : P.underlying t = some .string) : ∃ s : ByteArray, l = [s1 s] ∧ s.size ≤ reachBytes := by
  unfold fitN at h
  rw [hu] at h; exact h
theorem fit_bytes (h : fitN P (d + 2) t l) (hu : P.underlying t = some (.slice e)) (he : P.underlying e = some (.int .u8)) (hc : P.cellsOf e = 1) (hb : P.bytesOf e = 1) : ∃ b : List UInt8, l = [slE false b] ∧ b.length ≤ reachBytes := by
  obtain ⟨xs, h1, h2, _⟩ := fit_sl (α := UInt8) (Q := fun _ => True) h hu hc (fun l hl => fit_u8 hl he)
  exact ⟨xs, h1, by rw [hb] at h2; omega⟩
theorem wf_i64 {n : Int} (h : (Lit.int .i64 n).wf = true) : -9223372036854775808 ≤ n ∧ n ≤ 9223372036854775807 := by
  have h2 : (decide (IntKind.i64.min ≤ n) && decide (n ≤ IntKind.i64.max)) = true := h
  rw [Bool.and_eq_true, decide_eq_true_eq, decide_eq_true_eq] at h2
  have h3 : IntKind.i64.min = -9223372036854775808 := rfl
  have h4 : IntKind.i64.max = 9223372036854775807 := rfl
  omega
theorem len_le {n b : Nat} (h : n * b ≤ reachBytes) (hb : Nat.ble 2 b = true) : n ≤ 100000000000000 := by
  have h2 := Nat.le_of_ble_eq_true hb
  have h3 := Nat.mul_le_mul_left n h2
  unfold reachBytes at h
  omega
end

end Go.Proofs.Ytacfohamlkbpjaa
