/- What the law comes to: functions of the program, each with what it gives back, and the plain facts behind them. -/
import Derived.Test.YtddikflnjloagaaGreatDoorChecked
import Derived.IntWalk
import Derived.Test.YtddikflnjloagaaGreatDoorPk
import Derived.Test.YtddikflnjloagaaGreatDoorPl
namespace Go.Proofs.YtddikflnjloagaaGreatDoor

section
open Go Go.RowKit Go.IntWalk

open Enc (sz cs)

attribute [local irreducible] IntKind.wrap

/-! ### Tables are drawn -/

attribute [local irreducible] blC inC sIC byC csR rwC ppN pkR fbN cdN apN opC1 mdN csM

theorem csM_nil {n : Nat} : cs true (List.replicate n ([] : List (List Vl))) = csM (List.replicate n []) := by
  induction n with
  | zero => unfold csM; rfl
  | succ n ih =>
    rw [List.replicate_succ]
    have e : cs true (([] : List (List Vl)) :: List.replicate n []) = cs true [([] : List (List Vl))] ++ cs true (List.replicate n ([] : List (List Vl))) := cs_cons _ _
    rw [e, ih]
    unfold csM
    rfl

theorem csM_md {s : List Df} : cs true (mdN s) = csM (mdN s) := by
  by_cases h : fbN s = -1
  · rw [mdN_y h, csM_nil]
  · rw [mdN_n h]; unfold csM; rfl

/-- A slice that is only read, told within. -/
theorem w_lkF {α : Type} [Enc α] {n : Nat} {t h nx tn} (i j : Nat) (A : List Cell) (xs : List α) (C : List Cell) (k s : Nat) {cs0 cs1 : List Cell} (h2 : A ++ [slE false xs] ++ C = cs1) (hi : look none h i = some (true, cs0) := by rfl) (hj : look none h j = some (false, cs false xs) := by rfl)
    (h1 : cs0 = A ++ [.ref j 0 k s] ++ C := by first | rfl | simp) (hk : xs.length = k := by first | rfl | simp) (hs : sz α = s := by rfl) :
    WGh n ⟨t, h, nx, tn⟩ ⟨t, (i, some (true, cs1)) :: h, nx, tn⟩ := by
  subst hk hs h1 h2
  refine w_node i hi ?_
  refine CWs.app (CWs.app (CWs.refl _) (.cons ?_ .nil)) (CWs.refl _)
  have e : slE false xs = .sl false xs.length (sz α) (((cs false xs).drop 0).take (xs.length * sz α)) := by rw [cs_whole]
  rw [e]
  exact .look hj (by rw [cs_len]; omega) (by rw [cs_whole]; exact cs_shal xs)

theorem tdR_s {s : List Df} {i : Nat} {m : Tbs} {c : Cur} : tdR s (i + 1) m c = tdR s i (apN s m (opC1 s c).1).1 (opC1 s c).2 := rfl

set_option maxHeartbeats 2000000 in
set_option maxRecDepth 100000 in
theorem tx36 {c : Cur} {s : List Df} {most : Nat} (hc : CurOk c := by first | assumption | omega | (simp; done) | (simp; omega)) (hs : ScB s := by first | assumption | omega | (simp; done) | (simp; omega)) (hm : 0 < most ∧ most ≤ 100 := by first | assumption | omega | (simp; done) | (simp; omega)) : T 36 [aC c, aE s, aI (most : Nat)] [(true, [.sl true (tdC c s most).1.length 1 (csM (tdC c s most).1)])] [some (cuC (tdC c s most).2), none, none] := by
  refine w_call md [] Tryz.func36 rfl ?_
  have hz := hs.z
  have kb := blC_ok (n := most) hc
  have hb := blC_lt (c := c) hm.1
  have hM : T 27 [aE s] [(true, [.sl true (mdN s).length 1 (csM (mdN s))])] [none] := by
    have h := tx27 (s := s)
    rw [← csM_md]; exact h
  obtain ⟨k, hk⟩ : ∃ k, (blC c most).1 = k := ⟨_, rfl⟩
  have hB : T 72 [aC c, aI (most : Nat)] [vI (k : Nat)] [some (cuC (blC c most).2), none] := by
    have h := tx72 (c := c) (n := most) hc (by omega)
    rwa [hk] at h
  have e : tdC c s most = tdR s k (mdN s) (blC c most).2 := by unfold tdC; rw [hk]
  rw [e]
  have hz0 := mdN_z0 (s := s)
  have hl4 := hs.len
  repeat' ((conv => whnf); (first | (apply cx27; refine kl (hM) ?_) | (apply cx72; refine kl (hB) ?_) | refine And.intro ⟨rfl, (by simp), by decide, csM_shal⟩ ?_ | refine k0 ?_ | refine jA fun _ => ?_ | refine jB fun _ => ?_ | refine kC (fun _ => ?_) fun _ => ?_ | (apply cx38; refine kl tx38 ?_) | (apply cx15; refine kl tx15 ?_) | refine jst ?_ | exact ⟨rfl, rfl⟩ | exact jV | fail))
  conv => whnf
  refine loopk (ι := Nat × Tbs × Cur) (fun i => (i.1 ≤ k ∧ tdR s (k - i.1) i.2.1 i.2.2 = tdR s k (mdN s) (blC c most).2) ∧ (zMdb i.2.1 ≤ 4 + 257 * i.1 ∧ CurOk i.2.2)) (fun i => k - i.1) (0, mdN s, (blC c most).2) [0, 1, 6, 7] (fun i => [(8, .v false [i6 ((k : Int) - i.1)])]) [some fun i => some (true, cuC i.2.2), none, none, none, some fun i => some (true, csM i.2.1), some fun i => some (true, [.ref 4 0 i.2.1.length 1])] ?_
  refine ⟨⟨⟨Nat.zero_le _, rfl⟩, by simp only; omega, kb⟩, ?_, fun z hz => ?_⟩
  · exact w_autoX [5] (by (conv => whnf); exact And.intro (by kernel_rfl) (And.intro (by kernel_rfl) (by repeat' (first | (with_reducible exact rfl) | ((conv => whnf); first | exact trivial | exact ⟨rfl, csM_clo, rfl⟩ | exact rfl | exact tvi (by first | omega | (dsimp only; omega) | (simp; done)) | exact tvr (by first | omega | (dsimp only; omega) | (simp; done) | (simp; omega)) | exact ⟨rfl, clo_i, by first | rfl | rw [List.take_length] | assumption⟩ | refine And.intro ?_ ?_)))))
  · obtain ⟨i, m, u⟩ := z
    obtain ⟨⟨hi, hx⟩, hzm, hcu⟩ := hz
    simp only at hi hx hzm hcu
    repeat' ((conv => whnf); (first | refine k0 ?_ | (apply cx27; refine kl tx27 ?_) | (apply cx72; refine kl tx72 ?_) | (apply cx38; refine kl tx38 ?_) | (apply cx15; refine kl tx15 ?_) | refine jst ?_ | exact ⟨rfl, rfl⟩ | exact jV | fail))
    conv => whnf
    refine ⟨fun hlt => ?_, fun hge => ?_⟩
    · have hi2 : i < k := by omega
      have ho := opC1_z (c := u) hs
      obtain ⟨n, hn⟩ : ∃ n, k - i = n + 1 := ⟨k - i - 1, by omega⟩
      rw [hn, tdR_s] at hx
      have hO := tx38 (s := s) (c := u) hcu hs
      have hku := opC1_ok (s := s) hcu
      have hzz := apN_z (s := s) (m := m) (o := (opC1 s u).1)
      have hA := t_spec_ApplyOpL (s := s) (m := m) (kd := (opC1 s u).1.kind) (t := (opC1 s u).1.t) (row := (opC1 s u).1.row) (by omega) (by omega)
      rw [show (⟨(opC1 s u).1.kind, (opC1 s u).1.t, (opC1 s u).1.row⟩ : Opn) = (opC1 s u).1 from rfl] at hA
      obtain ⟨M2, hM2⟩ : ∃ M2, (apN s m (opC1 s u).1).1 = M2 := ⟨_, rfl⟩
      rw [hM2] at hA hx hzz
      repeat' ((conv => whnf); (first | refine bstep (w_freeze 4 rfl (csM_ro (m := m))) ?_ | refine bstep (w_lkF 5 4 [] m [] m.length 1 rfl (h1 := rfl)) ?_ | (apply cx38; refine kl (hO) ?_) | (apply cx15; refine kl (hA) ?_) | refine And.intro ⟨rfl, (by simp), by decide, csM_shal⟩ ?_ | refine k0 ?_ | refine jA fun _ => ?_ | refine jB fun _ => ?_ | refine kC (fun _ => ?_) fun _ => ?_ | (apply cx27; refine kl tx27 ?_) | (apply cx72; refine kl tx72 ?_) | refine jst ?_ | exact ⟨rfl, rfl⟩ | exact jV | fail))
      refine ⟨⟨(i + 1, M2, (opC1 s u).2), ⟨⟨by simp only; omega, by simp only; rw [show k - (i + 1) = n by omega]; exact hx⟩, by simp only; omega, hku⟩⟩, by simp only; omega, ?_⟩
      exact w_autoX [5] (by (conv => whnf); exact And.intro (by kernel_rfl) (And.intro (by kernel_rfl) (by repeat' (first | (with_reducible exact rfl) | ((conv => whnf); first | exact trivial | exact ⟨rfl, csM_clo, rfl⟩ | exact rfl | exact tvi (by first | omega | (dsimp only; omega) | (simp; done)) | exact tvr (by first | omega | (dsimp only; omega) | (simp; done) | (simp; omega)) | exact ⟨rfl, clo_i, by first | rfl | rw [List.take_length] | assumption⟩ | refine And.intro ?_ ?_)))))
    · obtain rfl : i = k := by omega
      rw [Nat.sub_self] at hx
      rw [← hx]
      repeat' ((conv => whnf); (first | refine And.intro ⟨rfl, (by simp), by decide, csM_shal⟩ ?_ | refine k0 ?_ | refine jA fun _ => ?_ | refine jB fun _ => ?_ | refine kC (fun _ => ?_) fun _ => ?_ | (apply cx27; refine kl tx27 ?_) | (apply cx72; refine kl tx72 ?_) | (apply cx38; refine kl tx38 ?_) | (apply cx15; refine kl tx15 ?_) | refine jst ?_ | exact ⟨rfl, rfl⟩ | exact jV | fail))

theorem cx36 {P : Program} {X : FuncId → List Arg → List (Bool × List Cell) → List (Option (List Cell)) → Prop} {a : List Arg} {Q : List (Bool × List Cell) → List (Option (List Cell)) → Prop} (h : ∃ b vals outs, a = b ∧ D P X (.call 36 b vals outs) ∧ Q vals outs) : CallS P X 36 a Q := ⟨h⟩
end

section
open Go Go.RowKit Go.IntWalk

open Enc (sz cs)

attribute [local irreducible] IntKind.wrap

/-! ### Values are drawn -/

attribute [local irreducible] blC inC sIC byC

abbrev wdL : List ByteArray := [⟨#[]⟩, ⟨#[97]⟩, ⟨#[98]⟩, ⟨#[97, 98]⟩, ⟨#[0]⟩, ⟨#[97, 0]⟩, ⟨#[0, 255]⟩, ⟨#[255]⟩, ⟨#[119, 111, 114, 100]⟩, ⟨#[122]⟩]

set_option maxRecDepth 100000 in
theorem tx153 {c : Cur} (hc : CurOk c := by first | assumption | omega | (simp; done) | (simp; omega)) : T 153 [aC c] [vS (sIC c wdL).1] [some (cuC (sIC c wdL).2)] := by
  refine w_call md [] Tryz.func153 rfl ?_
  repeat' ((conv => whnf); (first | (apply cx106; refine kl (tx106 (c := c) (l := wdL)) ?_) | refine And.intro ⟨rfl, rfl, rfl⟩ ?_ | refine k0 ?_ | refine jA fun _ => ?_ | refine jB fun _ => ?_ | refine kC (fun _ => ?_) fun _ => ?_ | refine jst ?_ | exact ⟨rfl, rfl⟩ | exact jV | fail))

theorem cx153 {P : Program} {X : FuncId → List Arg → List (Bool × List Cell) → List (Option (List Cell)) → Prop} {a : List Arg} {Q : List (Bool × List Cell) → List (Option (List Cell)) → Prop} (h : ∃ b vals outs, a = b ∧ D P X (.call 153 b vals outs) ∧ Q vals outs) : CallS P X 153 a Q := ⟨h⟩

theorem voB_1 {c : Cur} : voB c 1 = (⟨1, (inC c [0, 1, 2, 3, -1, 255, 256, 2147483647, -2147483648]).1, ⟨#[]⟩⟩, (inC c [0, 1, 2, 3, -1, 255, 256, 2147483647, -2147483648]).2) := if_pos rfl

theorem voB_2 {c : Cur} : voB c 2 = (⟨2, (inC (blC c 100000).2 [0, 1, -1, 255, 256, -256, -257, 65535, 1000000000000000, -1000000000000000, -((blC c 100000).1 : Int)]).1, ⟨#[]⟩⟩, (inC (blC c 100000).2 [0, 1, -1, 255, 256, -256, -257, 65535, 1000000000000000, -1000000000000000, -((blC c 100000).1 : Int)]).2) := by
  unfold voB; rw [if_neg (by decide), if_pos rfl]

theorem voB_3 {c : Cur} : voB c 3 = (⟨3, 0, (sIC c wdL).1⟩, (sIC c wdL).2) := by
  unfold voB; rw [if_neg (by decide), if_neg (by decide), if_pos rfl]

theorem voB_d {c : Cur} {t : Int} (h1 : ¬ t = 1) (h2 : ¬ t = 2) (h3 : ¬ t = 3) : voB c t = (⟨t, (blC c 2).1, ⟨#[]⟩⟩, (blC c 2).2) := by
  unfold voB; rw [if_neg h1, if_neg h2, if_neg h3]

theorem voC_1 {c : Cur} {t : Int} (h : (onC c 4).1 = true) : voC c t true = (⟨0, 0, ⟨#[]⟩⟩, (blC c 4).2) := by
  unfold voC; rw [if_pos rfl, if_pos h]

theorem voC_2 {c : Cur} {t : Int} (h : (onC c 4).1 = false) : voC c t true = voB (blC c 4).2 t := by
  unfold voC; rw [if_pos rfl, if_neg (by rw [h]; decide)]

attribute [local irreducible] voB voC

set_option maxHeartbeats 2000000 in
set_option maxRecDepth 100000 in
theorem tx132 {c : Cur} {t : Int} (hc : CurOk c := by first | assumption | omega | (simp; done) | (simp; omega)) : T 132 [aC c, aI t, aB true] [(true, vlC (voC c t true).1)] [some (cuC (voC c t true).2), none, none] := by
  refine w_call md [] Tryz.func132 rfl ?_
  have k1 := blC_ok (n := 4) hc
  have k2 := blC_ok (n := 100000) k1
  have b2 := blC_lt (c := (blC c 4).2) (n := 100000) (by decide)
  cases h4 : (onC c 4).1
  · rw [voC_2 h4]
    have hO := onT h4 hc (by decide)
    by_cases t1 : t = 1
    · subst t1
      rw [voB_1]
      repeat' ((conv => whnf); (first | (apply cx71; refine kl (hO) ?_) | (apply cx66; refine kl (tx66 (c := (blC c 4).2) (l := [0, 1, 2, 3, -1, 255, 256, 2147483647, -2147483648])) ?_) | refine And.intro ⟨rfl, rfl, rfl⟩ ?_ | refine k0 ?_ | refine jA fun _ => ?_ | refine jB fun _ => ?_ | refine kC (fun _ => ?_) fun _ => ?_ | (apply cx72; refine kl tx72 ?_) | (apply cx153; refine kl tx153 ?_) | refine jst ?_ | exact ⟨rfl, rfl⟩ | exact jV | fail))
    · by_cases t2 : t = 2
      · subst t2
        rw [voB_2, show (-((blC (blC c 4).2 100000).1 : Int)) = 0 - ((blC (blC c 4).2 100000).1 : Int) by omega]
        repeat' ((conv => whnf); (first | (apply cx71; refine kl (hO) ?_) | (apply cx72; refine kl (tx72 (c := (blC c 4).2) (n := 100000)) ?_) | (apply cx66; refine kl (tx66 (c := (blC (blC c 4).2 100000).2) (l := [0, 1, -1, 255, 256, -256, -257, 65535, 1000000000000000, -1000000000000000, 0 - ((blC (blC c 4).2 100000).1 : Int)])) ?_) | refine And.intro ⟨rfl, rfl, rfl⟩ ?_ | refine k0 ?_ | refine jA fun _ => ?_ | refine jB fun _ => ?_ | refine kC (fun _ => ?_) fun _ => ?_ | (apply cx153; refine kl tx153 ?_) | refine jst ?_ | exact ⟨rfl, rfl⟩ | exact jV | fail))
      · by_cases t3 : t = 3
        · subst t3
          rw [voB_3]
          repeat' ((conv => whnf); (first | (apply cx71; refine kl (hO) ?_) | (apply cx153; refine kl (tx153 (c := (blC c 4).2)) ?_) | refine k0 ?_ | refine jA fun _ => ?_ | refine jB fun _ => ?_ | refine kC (fun _ => ?_) fun _ => ?_ | (apply cx66; refine kl tx66 ?_) | (apply cx72; refine kl tx72 ?_) | refine jst ?_ | exact ⟨rfl, rfl⟩ | exact jV | fail))
        · rw [voB_d t1 t2 t3]
          repeat' ((conv => whnf); (first | (apply cx71; refine kl (hO) ?_) | (apply cx72; refine kl (tx72 (c := (blC c 4).2) (n := 2)) ?_) | refine k0 ?_ | refine jA fun _ => ?_ | refine jB fun _ => ?_ | refine kC (fun _ => ?_) fun _ => ?_ | (apply cx66; refine kl tx66 ?_) | (apply cx153; refine kl tx153 ?_) | refine jst ?_ | exact ⟨rfl, rfl⟩ | exact jV | fail))
  · rw [voC_1 h4]
    have hO := onT h4 hc (by decide)
    repeat' ((conv => whnf); (first | (apply cx71; refine kl (hO) ?_) | refine k0 ?_ | refine jA fun _ => ?_ | refine jB fun _ => ?_ | refine kC (fun _ => ?_) fun _ => ?_ | (apply cx66; refine kl tx66 ?_) | (apply cx72; refine kl tx72 ?_) | (apply cx153; refine kl tx153 ?_) | refine jst ?_ | exact ⟨rfl, rfl⟩ | exact jV | fail))

theorem cx132 {P : Program} {X : FuncId → List Arg → List (Bool × List Cell) → List (Option (List Cell)) → Prop} {a : List Arg} {Q : List (Bool × List Cell) → List (Option (List Cell)) → Prop} (h : ∃ b vals outs, a = b ∧ D P X (.call 132 b vals outs) ∧ Q vals outs) : CallS P X 132 a Q := ⟨h⟩

set_option maxRecDepth 100000 in
theorem tx104 {c : Cur} (hc : CurOk c := by first | assumption | omega | (simp; done) | (simp; omega)) : T 104 [aC c] [(true, vlC (vdC c).1)] [some (cuC (vdC c).2)] := by
  refine w_call md [] Tryz.func104 rfl ?_
  have k1 := blC_ok (n := 4) hc
  have b1 := blC_lt (c := c) (n := 4) (by decide)
  repeat' ((conv => whnf); (first | (apply cx72; refine kl (tx72 (c := c) (n := 4)) ?_) | (apply cx132; refine kl (tx132 (c := (blC c 4).2) (t := ((1 + (blC c 4).1 : Nat) : Int))) ?_) | refine k0 ?_ | refine jA fun _ => ?_ | refine jB fun _ => ?_ | refine kC (fun _ => ?_) fun _ => ?_ | refine jst ?_ | exact ⟨rfl, rfl⟩ | exact jV | fail))

theorem cx104 {P : Program} {X : FuncId → List Arg → List (Bool × List Cell) → List (Option (List Cell)) → Prop} {a : List Arg} {Q : List (Bool × List Cell) → List (Option (List Cell)) → Prop} (h : ∃ b vals outs, a = b ∧ D P X (.call 104 b vals outs) ∧ Q vals outs) : CallS P X 104 a Q := ⟨h⟩

abbrev nuM (c : Cur) : List Int := [0, 1, -1, 63, 127, 128, 255, 256, 65535, 65536, 2147483647, -2147483648, 2147483648, -2147483649, 1000000000000000, -1000000000000000, 1000000000000001, 9223372036854775807, -9223372036854775808, ((blC c 100000).1 : Int), 0 - ((blC (blC c 100000).2 100000).1 : Int)]

theorem nuLM {c : Cur} : nuL c = nuM c := by
  unfold nuL nuM
  rw [show (-((blC (blC c 100000).2 100000).1 : Int)) = 0 - ((blC (blC c 100000).2 100000).1 : Int) by omega]

theorem nuCM {c : Cur} : nuC c = inC (blC (blC c 100000).2 100000).2 (nuM c) := by unfold nuC; rw [nuLM]

set_option maxHeartbeats 2000000 in
set_option maxRecDepth 100000 in
theorem tx152 {c : Cur} (hc : CurOk c := by first | assumption | omega | (simp; done) | (simp; omega)) : T 152 [aC c] [vI (nuC c).1] [some (cuC (nuC c).2)] := by
  refine w_call md [] Tryz.func152 rfl ?_
  have k1 := blC_ok (n := 100000) hc
  have k2 := blC_ok (n := 100000) k1
  have b1 := blC_lt (c := c) (n := 100000) (by decide)
  have b2 := blC_lt (c := (blC c 100000).2) (n := 100000) (by decide)
  rw [nuCM]
  repeat' ((conv => whnf); (first | (apply cx72; refine kl (tx72 (c := c) (n := 100000)) ?_) | (apply cx72; refine kl (tx72 (c := (blC c 100000).2) (n := 100000)) ?_) | (apply cx66; refine kl (tx66 (c := (blC (blC c 100000).2 100000).2) (l := nuM c)) ?_) | refine And.intro ⟨rfl, rfl, rfl⟩ ?_ | refine k0 ?_ | refine jA fun _ => ?_ | refine jB fun _ => ?_ | refine kC (fun _ => ?_) fun _ => ?_ | refine jst ?_ | exact ⟨rfl, rfl⟩ | exact jV | fail))

theorem cx152 {P : Program} {X : FuncId → List Arg → List (Bool × List Cell) → List (Option (List Cell)) → Prop} {a : List Arg} {Q : List (Bool × List Cell) → List (Option (List Cell)) → Prop} (h : ∃ b vals outs, a = b ∧ D P X (.call 152 b vals outs) ∧ Q vals outs) : CallS P X 152 a Q := ⟨h⟩

theorem zerB (m : Nat) : zerosT [.prim (.int .u8 0)] m = cs true (List.replicate m (0 : UInt8)) := by
  induction m with
  | zero => rfl
  | succ m ih =>
    rw [List.replicate_succ, cs_cons, ← ih]
    show (List.replicate (m + 1) [Cell.prim (.int .u8 0)]).flatten = _
    rw [List.replicate_succ, List.flatten_cons]; rfl

theorem kmB {n : Int} {m b : Nat} {K : Nat → Nat → List Cell → Prop} (hn : n = (m : Int)) (h : m ≤ 100000000) (hb : Nat.ble b 1000 = true) (k : K m 1 (cs true (List.replicate m (0 : UInt8)))) :
    (n = n ∧ 0 ≤ n ∧ n ≤ 140737488355328 ∧ n.toNat * b ≤ bigB) ∧ ∃ q s N, n.toNat = q ∧ ([Cell.prim (.int .u8 0)] : List Cell).length = s ∧ zerosT [.prim (.int .u8 0)] q = N ∧ K q s N := by
  subst hn
  exact jM (z := [Cell.prim (.int .u8 0)]) (K := fun q s N => K q s N) (by rw [zerB]; exact k) rfl h hb

abbrev qtL : List ByteArray := [⟨#[105, 116, 39, 115]⟩, ⟨#[97, 32, 98]⟩, ⟨#[126]⟩, ⟨#[127]⟩]

theorem vaW_0 {v : Vl} {c : Cur} : vaW v 0 c = ({ v with k := (blC c 6).1 }, (blC c 6).2) := if_pos rfl

theorem vaW_1 {v : Vl} {c : Cur} : vaW v 1 c = ({ v with n := (nuC c).1 }, (nuC c).2) := by unfold vaW; rw [if_neg (by decide), if_pos rfl]

theorem vaW_2 {v : Vl} {c : Cur} : vaW v 2 c = ({ v with s := ⟨(List.replicate (30 + (blC c 2).1) (0 : UInt8)).toArray⟩ }, (blC c 2).2) := by
  unfold vaW; rw [if_neg (by decide), if_neg (by decide), if_pos rfl]

theorem vaW_3 {v : Vl} {c : Cur} : vaW v 3 c = ({ v with s := (sIC c qtL).1 }, (sIC c qtL).2) := by
  unfold vaW; rw [if_neg (by decide), if_neg (by decide), if_neg (by decide), if_pos rfl]

theorem vaW_4 {v : Vl} {w : Nat} {c : Cur} (h0 : ¬ w = 0) (h1 : ¬ w = 1) (h2 : ¬ w = 2) (h3 : ¬ w = 3) : vaW v w c = (v, c) := by
  unfold vaW; rw [if_neg h0, if_neg h1, if_neg h2, if_neg h3]

attribute [local irreducible] vdC nuC vaW

set_option maxHeartbeats 2000000 in
set_option maxRecDepth 100000 in
theorem tx130 {c : Cur} (hc : CurOk c := by first | assumption | omega | (simp; done) | (simp; omega)) : T 130 [aC c] [(true, vlC (vaC c).1)] [some (cuC (vaC c).2)] := by
  refine w_call md [] Tryz.func130 rfl ?_
  have k1 := vdC_ok hc
  have k2 := blC_ok (n := 10) k1
  obtain ⟨w, hw⟩ : ∃ w, (blC (vdC c).2 10).1 = w := ⟨_, rfl⟩
  have hB : T 72 [aC (vdC c).2, aI (10 : Nat)] [vI (w : Nat)] [some (cuC (blC (vdC c).2 10).2), none] := by
    have h := tx72 (c := (vdC c).2) (n := 10) k1 (by decide)
    rwa [hw] at h
  have e : vaC c = vaW (vdC c).1 w (blC (vdC c).2 10).2 := by unfold vaC; rw [hw]
  rw [e]
  have hb2 := blC_lt (c := (blC (vdC c).2 10).2) (n := 2) (by decide)
  obtain ⟨v, hv⟩ : ∃ v, (vdC c).1 = v := ⟨_, rfl⟩
  have hV : T 104 [aC c] [(true, vlC v)] [some (cuC (vdC c).2)] := by
    have h := tx104 (c := c) hc
    rwa [hv] at h
  rw [hv]
  obtain ⟨vk, vn, vs⟩ := v
  by_cases w0 : w = 0
  · subst w0
    rw [vaW_0]
    repeat' ((conv => whnf); (first | (apply cx104; refine kl (hV) ?_) | (apply cx72; refine kl (hB) ?_) | (apply cx72; refine kl (tx72 (c := (blC (vdC c).2 10).2) (n := 6)) ?_) | refine k0 ?_ | refine jA fun _ => ?_ | refine jB fun _ => ?_ | refine kC (fun _ => ?_) fun _ => ?_ | (apply cx152; refine kl tx152 ?_) | (apply cx106; refine kl tx106 ?_) | refine jst ?_ | exact ⟨rfl, rfl⟩ | exact jV | fail))
  by_cases w1 : w = 1
  · subst w1
    rw [vaW_1]
    repeat' ((conv => whnf); (first | (apply cx104; refine kl (hV) ?_) | (apply cx72; refine kl (hB) ?_) | (apply cx152; refine kl (tx152 (c := (blC (vdC c).2 10).2)) ?_) | refine k0 ?_ | refine jA fun _ => ?_ | refine jB fun _ => ?_ | refine kC (fun _ => ?_) fun _ => ?_ | (apply cx106; refine kl tx106 ?_) | refine jst ?_ | exact ⟨rfl, rfl⟩ | exact jV | fail))
  by_cases w2 : w = 2
  · subst w2
    rw [vaW_2]
    repeat' ((conv => whnf); (first | (apply cx104; refine kl (hV) ?_) | (apply cx72; refine kl (hB) ?_) | (apply cx72; refine kl (tx72 (c := (blC (vdC c).2 10).2) (n := 2)) ?_) | refine kmB (m := 30 + (blC (blC (vdC c).2 10).2 2).1) (by omega) (by omega) (by rfl) ?_ | refine Exists.intro _ (Exists.intro _ (Exists.intro _ (And.intro (srcO (α := UInt8) rfl rfl) (And.intro strOf_cs ?_)))) | refine k0 ?_ | refine jA fun _ => ?_ | refine jB fun _ => ?_ | refine kC (fun _ => ?_) fun _ => ?_ | (apply cx152; refine kl tx152 ?_) | (apply cx106; refine kl tx106 ?_) | refine jst ?_ | exact ⟨rfl, rfl⟩ | exact jV | fail))
  by_cases w3 : w = 3
  · subst w3
    rw [vaW_3]
    repeat' ((conv => whnf); (first | (apply cx104; refine kl (hV) ?_) | (apply cx72; refine kl (hB) ?_) | (apply cx106; refine kl (tx106 (c := (blC (vdC c).2 10).2) (l := qtL)) ?_) | refine And.intro ⟨rfl, rfl, rfl⟩ ?_ | refine k0 ?_ | refine jA fun _ => ?_ | refine jB fun _ => ?_ | refine kC (fun _ => ?_) fun _ => ?_ | (apply cx152; refine kl tx152 ?_) | refine jst ?_ | exact ⟨rfl, rfl⟩ | exact jV | fail))
  rw [vaW_4 w0 w1 w2 w3]
  repeat' ((conv => whnf); (first | (apply cx104; refine kl (hV) ?_) | (apply cx72; refine kl (hB) ?_) | refine k0 ?_ | refine jA fun _ => ?_ | refine jB fun _ => ?_ | refine kC (fun _ => ?_) fun _ => ?_ | (apply cx152; refine kl tx152 ?_) | (apply cx106; refine kl tx106 ?_) | refine jst ?_ | exact ⟨rfl, rfl⟩ | exact jV | fail))

theorem cx130 {P : Program} {X : FuncId → List Arg → List (Bool × List Cell) → List (Option (List Cell)) → Prop} {a : List Arg} {Q : List (Bool × List Cell) → List (Option (List Cell)) → Prop} (h : ∃ b vals outs, a = b ∧ D P X (.call 130 b vals outs) ∧ Q vals outs) : CallS P X 130 a Q := ⟨h⟩
end

section
open Go Go.RowKit Go.IntWalk

open Enc (sz cs)

attribute [local irreducible] IntKind.wrap

/-! ### Rows are drawn, bent -/

attribute [local irreducible] blC inC sIC byC rwC vdC vaC lgR

theorem raW_0 {l : List Cl} {r : List Vl} {c : Cur} : raW l r 0 c = (r.set 0 (vaC c).1, (vaC c).2) := if_pos rfl

theorem raW_1 {l : List Cl} {r : List Vl} {c : Cur} : raW l r 1 c = (r ++ [(vdC c).1], (vdC c).2) := by unfold raW; rw [if_neg (by decide), if_pos rfl]

theorem raW_2 {l : List Cl} {r : List Vl} {c : Cur} : raW l r 2 c = (lgR l l.length r, c) := by
  unfold raW; rw [if_neg (by decide), if_neg (by decide), if_pos rfl]

theorem raW_3 {l : List Cl} {r : List Vl} {w : Nat} {c : Cur} (h0 : ¬ w = 0) (h1 : ¬ w = 1) (h2 : ¬ w = 2) : raW l r w c = (r, c) := by
  unfold raW; rw [if_neg h0, if_neg h1, if_neg h2]

theorem lgR_y {l : List Cl} {r : List Vl} {i : Nat} (h : i < l.length) (h3 : l[i].type = 3) : lgR l (i + 1) r = (lgR l i r).set i ⟨3, 0, ⟨(List.replicate 30 (0 : UInt8)).toArray⟩⟩ := by
  rw [lgR, List.getD_eq_getElem?_getD, List.getElem?_eq_getElem h]; exact if_pos h3

theorem lgR_n {l : List Cl} {r : List Vl} {i : Nat} (h : i < l.length) (h3 : ¬ l[i].type = 3) : lgR l (i + 1) r = lgR l i r := by
  rw [lgR, List.getD_eq_getElem?_getD, List.getElem?_eq_getElem h]; exact if_neg h3

theorem lgR_0 {l : List Cl} {r : List Vl} : lgR l 0 r = r := by rw [lgR]

theorem vEl {α : Type} [Enc α] {xs ys : List α} {n s : Nat} (h : xs = ys) (hn : n = ys.length) (hs : sz α = s := by rfl) : [(false, [Cell.sl true n s (cs true xs)])] = [vE ys] := by subst h hn hs; rfl

attribute [local irreducible] raW

set_option maxHeartbeats 2000000 in
set_option maxRecDepth 100000 in
theorem tx101 {s : List Df} {c : Cur} (hc : CurOk c := by first | assumption | omega | (simp; done) | (simp; omega)) (hs : ScB s := by first | assumption | omega | (simp; done) | (simp; omega)) : T 101 [aC c, aE s] [vE (raC c (s[0]'hs.pos).cols).1] [some (cuC (raC c (s[0]'hs.pos).cols).2), none] := by
  refine w_call md [] Tryz.func101 rfl ?_
  have hp : 0 < s.length := hs.pos
  have hd := hs.df _ (List.getElem_mem hp)
  have h2 := hs.two hp
  have hl := hs.len
  have hdc := hd.cols
  have hdz : zDf s[0] ≤ 2000000 := Nat.le_trans hd.z (by decide)
  have hR : T 67 [aC c, .val true (dfC false s[0])] [vE (rwC c s[0].cols s[0].cols.length).1] [some (cuC (rwC c s[0].cols s[0].cols.length).2), none] := tx67 hc (by omega)
  have k1 := rwC_ok (l := s[0].cols) hc (i := s[0].cols.length)
  have hrl := rwC_len (c := c) (l := s[0].cols) (i := s[0].cols.length)
  unfold raC
  generalize rwC c s[0].cols s[0].cols.length = q at *
  obtain ⟨r, e⟩ := q
  simp only at hR k1 hrl ⊢
  have k2 := blC_ok (n := 10) k1
  obtain ⟨w, hw⟩ : ∃ w, (blC e 10).1 = w := ⟨_, rfl⟩
  have hB : T 72 [aC e, aI (10 : Nat)] [vI (w : Nat)] [some (cuC (blC e 10).2), none] := by
    have h := tx72 (c := e) (n := 10) k1 (by decide)
    rwa [hw] at h
  rw [hw]
  by_cases w0 : w = 0
  · subst w0
    rw [raW_0]
    repeat' ((conv => whnf); (first | (apply cx67; refine kl (hR) ?_) | (apply cx72; refine kl (hB) ?_) | (apply cx130; refine kl (tx130 (c := (blC e 10).2)) ?_) | refine ko (jp (xs := r) (i := 0) (y := (vaC (blC e 10).2).1) (h := by omega)) ?_ | refine k0 ?_ | refine jA fun _ => ?_ | refine jB fun _ => ?_ | refine kC (fun _ => ?_) fun _ => ?_ | (apply cx104; refine kl tx104 ?_) | refine jst ?_ | exact ⟨rfl, rfl⟩ | exact jV | fail))
    exact ⟨vEl rfl List.length_set.symm, rfl⟩
  by_cases w1 : w = 1
  · subst w1
    rw [raW_1]
    repeat' ((conv => whnf); (first | (apply cx67; refine kl (hR) ?_) | (apply cx72; refine kl (hB) ?_) | (apply cx104; refine kl (tx104 (c := (blC e 10).2)) ?_) | refine jap (N := cs true ([(vdC (blC e 10).2).1] : List Vl)) (apE (xs := r) ?_) | refine k0 ?_ | refine jA fun _ => ?_ | refine jB fun _ => ?_ | refine kC (fun _ => ?_) fun _ => ?_ | (apply cx130; refine kl tx130 ?_) | refine jst ?_ | exact ⟨rfl, rfl⟩ | exact jV | fail))
  by_cases w2 : w = 2
  · subst w2
    rw [raW_2]
    repeat' ((conv => whnf); (first | (apply cx67; refine kl (hR) ?_) | (apply cx72; refine kl (hB) ?_) | refine k0 ?_ | refine jA fun _ => ?_ | refine jB fun _ => ?_ | refine kC (fun _ => ?_) fun _ => ?_ | (apply cx130; refine kl tx130 ?_) | (apply cx104; refine kl tx104 ?_) | refine jst ?_ | exact ⟨rfl, rfl⟩ | exact jV | fail))
    conv => whnf
    refine loopk (ι := Nat) (fun i => i ≤ s[0].cols.length) (fun i => s[0].cols.length - i) (0) [1, 5] (fun i => [(6, .v false [i6 i])]) [none, none, some fun i => nE (lgR s[0].cols i r)] ?_
    refine ⟨Nat.zero_le _, ?_, fun i hi => ?_⟩
    · exact w_autoX [0] (by (conv => whnf); exact And.intro (by kernel_rfl) (And.intro (by kernel_rfl) (by repeat' (first | (with_reducible exact rfl) | ((conv => whnf); first | exact trivial | exact (by rw [lgR_0]; exact ⟨rfl, by simp, rfl⟩) | exact rfl | exact tvi (by first | omega | (dsimp only; omega) | (simp; done)) | exact tvr (by first | omega | (dsimp only; omega) | (simp; done) | (simp; omega)) | exact ⟨rfl, clo_i, by first | rfl | rw [List.take_length] | assumption⟩ | refine And.intro ?_ ?_)))))
    · have hll := lgR_len (l := s[0].cols) (r := r) (i := i)
      by_cases hlt : i < s[0].cols.length
      · by_cases h3 : s[0].cols[i].type = 3
        · have hg := lgR_y (r := r) hlt h3
          repeat' ((conv => whnf); (first | refine ko (ct (xs := s) (i := 0) (off := 1) (n := 1) hp (by decide)) ?_ | refine kmB (n := 30) (m := 30) rfl (by decide) (by rfl) ?_ | refine Exists.intro _ (Exists.intro _ (Exists.intro _ (And.intro (srcO (α := UInt8) rfl rfl) (And.intro strOf_cs ?_)))) | refine ko (jp (xs := lgR s[0].cols i r) (i := i) (y := ⟨3, 0, ⟨(List.replicate 30 (0 : UInt8)).toArray⟩⟩) (h := by omega)) ?_ | refine k0 ?_ | refine jA fun _ => ?_ | refine jB fun _ => ?_ | refine kC (fun _ => ?_) fun _ => ?_ | (apply cx67; refine kl tx67 ?_) | (apply cx72; refine kl tx72 ?_) | (apply cx130; refine kl tx130 ?_) | (apply cx104; refine kl tx104 ?_) | refine jst ?_ | exact ⟨rfl, rfl⟩ | exact jV | fail))
          refine ⟨⟨i + 1, by omega⟩, by simp only; omega, ?_⟩
          exact w_autoX [0] (by (conv => whnf); exact And.intro (by kernel_rfl) (And.intro (by kernel_rfl) (by repeat' (first | (with_reducible exact rfl) | ((conv => whnf); first | exact trivial | exact (by rw [hg]; exact ⟨rfl, by simp, rfl⟩) | exact (by rw [hg]) | exact rfl | exact tvi (by first | omega | (dsimp only; omega) | (simp; done)) | exact tvr (by first | omega | (dsimp only; omega) | (simp; done) | (simp; omega)) | exact ⟨rfl, clo_i, by first | rfl | rw [List.take_length] | assumption⟩ | refine And.intro ?_ ?_)))))
        · have hg := lgR_n (r := r) hlt h3
          repeat' ((conv => whnf); (first | refine k0 ?_ | refine jA fun _ => ?_ | refine jB fun _ => ?_ | refine kC (fun _ => ?_) fun _ => ?_ | (apply cx67; refine kl tx67 ?_) | (apply cx72; refine kl tx72 ?_) | (apply cx130; refine kl tx130 ?_) | (apply cx104; refine kl tx104 ?_) | refine jst ?_ | exact ⟨rfl, rfl⟩ | exact jV | fail))
          refine ⟨⟨i + 1, by omega⟩, by simp only; omega, ?_⟩
          exact w_autoX [0] (by (conv => whnf); exact And.intro (by kernel_rfl) (And.intro (by kernel_rfl) (by repeat' (first | (with_reducible exact rfl) | ((conv => whnf); first | exact trivial | exact (by rw [hg]; exact ⟨rfl, by simp, rfl⟩) | exact (by rw [hg]) | exact rfl | exact tvi (by first | omega | (dsimp only; omega) | (simp; done)) | exact tvr (by first | omega | (dsimp only; omega) | (simp; done) | (simp; omega)) | exact ⟨rfl, clo_i, by first | rfl | rw [List.take_length] | assumption⟩ | refine And.intro ?_ ?_)))))
      · obtain rfl : i = s[0].cols.length := by omega
        repeat' ((conv => whnf); (first | refine And.intro ⟨rfl, by rw [cs_len, hll], by decide, cs_shal _⟩ ?_ | refine k0 ?_ | refine jA fun _ => ?_ | refine jB fun _ => ?_ | refine kC (fun _ => ?_) fun _ => ?_ | (apply cx67; refine kl tx67 ?_) | (apply cx72; refine kl tx72 ?_) | (apply cx130; refine kl tx130 ?_) | (apply cx104; refine kl tx104 ?_) | refine jst ?_ | exact ⟨rfl, rfl⟩ | exact jV | fail))
        exact ⟨vEl rfl hll.symm, rfl⟩
  rw [raW_3 w0 w1 w2]
  repeat' ((conv => whnf); (first | (apply cx67; refine kl (hR) ?_) | (apply cx72; refine kl (hB) ?_) | refine k0 ?_ | refine jA fun _ => ?_ | refine jB fun _ => ?_ | refine kC (fun _ => ?_) fun _ => ?_ | (apply cx130; refine kl tx130 ?_) | (apply cx104; refine kl tx104 ?_) | refine jst ?_ | exact ⟨rfl, rfl⟩ | exact jV | fail))

theorem cx101 {P : Program} {X : FuncId → List Arg → List (Bool × List Cell) → List (Option (List Cell)) → Prop} {a : List Arg} {Q : List (Bool × List Cell) → List (Option (List Cell)) → Prop} (h : ∃ b vals outs, a = b ∧ D P X (.call 101 b vals outs) ∧ Q vals outs) : CallS P X 101 a Q := ⟨h⟩
end

section
open Go Go.RowKit Go.IntWalk

open Enc (sz cs)

attribute [local irreducible] IntKind.wrap

/-! ### Operations are drawn, bent or not -/

attribute [local irreducible] blC inC sIC byC csR rwC ppN pkR fbN cdN vdC raC

theorem gdf {s : List Df} (h : 0 < s.length) : s.getD 0 ⟨⟨#[]⟩, [], [], []⟩ = s[0] := by
  rw [List.getD_eq_getElem?_getD, List.getElem?_eq_getElem h]; rfl

theorem oaW_0 {s : List Df} {o : Opn} {c : Cur} : oaW s o 0 c = (⟨(blC c 6).1, o.t, o.row⟩, (blC c 6).2) := if_pos rfl

theorem oaW_1 {s : List Df} {o : Opn} {c : Cur} : oaW s o 1 c = (⟨o.kind, (inC c [-1, 0, 1, 3]).1, o.row⟩, (inC c [-1, 0, 1, 3]).2) := by
  unfold oaW; rw [if_neg (by decide), if_pos rfl]

theorem oaW_2 {s : List Df} {o : Opn} {c : Cur} (h : 0 < s.length) : oaW s o 2 c = (⟨o.kind, o.t, (raC c s[0].cols).1⟩, (raC c s[0].cols).2) := by
  unfold oaW; rw [if_neg (by decide), if_neg (by decide), if_pos rfl, gdf h]

theorem oaW_3 {s : List Df} {o : Opn} {c : Cur} : oaW s o 3 c = (⟨o.kind, o.t, o.row ++ [(vdC c).1]⟩, (vdC c).2) := by
  unfold oaW; rw [if_neg (by decide), if_neg (by decide), if_neg (by decide), if_pos rfl]

theorem oaW_4 {s : List Df} {o : Opn} {w : Nat} {c : Cur} (h0 : ¬ w = 0) (h1 : ¬ w = 1) (h2 : ¬ w = 2) (h3 : ¬ w = 3) : oaW s o w c = (o, c) := by
  unfold oaW; rw [if_neg h0, if_neg h1, if_neg h2, if_neg h3]

set_option maxHeartbeats 2000000 in
set_option maxRecDepth 100000 in
theorem t_spec_l22OpO {s : List Df} {c : Cur} (hc : CurOk c := by first | assumption | omega | (simp; done) | (simp; omega)) (hs : ScB s := by first | assumption | omega | (simp; done) | (simp; omega)) : T 38 [aC c, aE s] [(true, [i6 (opC1 s c).1.kind, i6 (opC1 s c).1.t, slE true (opC1 s c).1.row])] [some (cuC (opC1 s c).2), none] := by
  refine w_call md [] Tryz.func38 rfl ?_
  have k1 := inC_ok (l := [1, 1, 1, 2, 2, 3, 4]) hc
  have hp := hs.pos
  have hl := hs.len
  have hk : (opT s c).1 < s.length := blC_lt hp
  have k2 : CurOk (opT s c).2 := blC_ok k1
  have hd := (hs.df _ (List.getElem_mem hk))
  have hdz : zDf s[(opT s c).1] ≤ 2000000 := Nat.le_trans hd.z (by decide)
  have hdc := hd.cols
  have hB : T 72 [aC (opK c).2, aI (s.length : Nat)] [vI ((opT s c).1 : Nat)] [some (cuC (opT s c).2), none] := tx72 k1 (by omega)
  have hI : T 66 [aC c, aO ([1, 1, 1, 2, 2, 3, 4] : List Int)] [vI (opK c).1] [some (cuC (opK c).2), some (cs true ([1, 1, 1, 2, 2, 3, 4] : List Int))] := tx66 hc (by decide)
  have hR : T 67 [aC (opT s c).2, .val true (dfC false s[(opT s c).1])] [vE (opR s c).1] [some (cuC (opR s c).2), none] := by
    have h := tx67 (c := (opT s c).2) (d := s[(opT s c).1]) k2 (by omega)
    unfold opR
    rw [gds hk]
    exact h
  have hrl : (opR s c).1.length ≤ 7 := (opR_b hs).1
  have e1 : (opC1 s c).2 = (opR s c).2 := rfl
  have e2 : (opC1 s c).1.kind = (opK c).1 := rfl
  have e3 : (opC1 s c).1.t = ((opT s c).1 : Nat) := rfl
  rw [e1, e2, e3]
  generalize hkd : (opK c).1 = kd at *
  by_cases h4 : kd = 4
  · have e4 : (opC1 s c).1.row = pkR (ppN s[(opT s c).1]) (opR s c).1 := by
      show (if (opK c).1 = 4 then _ else _) = _
      rw [if_pos (hkd.trans h4), gds hk]
    rw [e4]
    generalize (opT s c).1 = t at *
    generalize (opR s c).1 = r at *
    subst h4
    repeat' ((conv => whnf); (first | (apply cx66; refine kl (hI) ?_) | (apply cx72; refine kl (hB) ?_) | refine And.intro ⟨rfl, rfl, rfl⟩ ?_ | refine And.intro ⟨by omega, by omega⟩ (Exists.intro _ (And.intro (rdI (i := t) (by omega) (by omega)) ?_)) | (apply cx67; refine kl (hR) ?_) | (apply cx74; refine kl (tx74 (d := s[t]) (r := r)) ?_) | refine k0 ?_ | refine jA fun _ => ?_ | refine jB fun _ => ?_ | refine kC (fun _ => ?_) fun _ => ?_ | refine jst ?_ | exact ⟨rfl, rfl⟩ | exact jV | fail))
  · have e4 : (opC1 s c).1.row = (opR s c).1 := by
      show (if (opK c).1 = 4 then _ else _) = _
      rw [if_neg (fun q => h4 (hkd.symm.trans q))]
    rw [e4]
    generalize (opT s c).1 = t at *
    generalize (opR s c).1 = r at *
    repeat' ((conv => whnf); (first | (apply cx66; refine kl (hI) ?_) | (apply cx72; refine kl (hB) ?_) | refine And.intro ⟨rfl, rfl, rfl⟩ ?_ | refine And.intro ⟨by omega, by omega⟩ (Exists.intro _ (And.intro (rdI (i := t) (by omega) (by omega)) ?_)) | (apply cx67; refine kl (hR) ?_) | refine k0 ?_ | refine jA fun _ => ?_ | refine jB fun _ => ?_ | refine kC (fun _ => ?_) fun _ => ?_ | (apply cx74; refine kl tx74 ?_) | refine jst ?_ | exact ⟨rfl, rfl⟩ | exact jV | fail))

attribute [local irreducible] oaW opC1

set_option maxHeartbeats 2000000 in
set_option maxRecDepth 100000 in
theorem tx69 {s : List Df} {c : Cur} (hc : CurOk c := by first | assumption | omega | (simp; done) | (simp; omega)) (hs : ScB s := by first | assumption | omega | (simp; done) | (simp; omega)) : T 69 [aC c, aE s] [(true, [i6 (oaC c s).1.kind, i6 (oaC c s).1.t, slE false (oaC c s).1.row])] [some (cuC (oaC c s).2), none] := by
  refine w_call md [] Tryz.func69 rfl ?_
  have hp : 0 < s.length := hs.pos
  have hz := hs.z
  have hO := t_spec_l22OpO (s := s) (c := c) hc hs
  have k1 := opC1_ok (s := s) hc
  have hrb := (opC1_b (c := c) hs).1
  unfold oaC
  generalize opC1 s c = q at *
  obtain ⟨⟨kd, t, row⟩, e⟩ := q
  simp only at hO k1 hrb ⊢
  have k2 := blC_ok (n := 12) k1
  obtain ⟨w, hw⟩ : ∃ w, (blC e 12).1 = w := ⟨_, rfl⟩
  have hB : T 72 [aC e, aI (12 : Nat)] [vI (w : Nat)] [some (cuC (blC e 12).2), none] := by
    have h := tx72 (c := e) (n := 12) k1 (by decide)
    rwa [hw] at h
  rw [hw]
  by_cases w0 : w = 0
  · subst w0
    rw [oaW_0]
    repeat' ((conv => whnf); (first | (apply cx38; refine kl (hO) ?_) | (apply cx72; refine kl (hB) ?_) | (apply cx72; refine kl (tx72 (c := (blC e 12).2) (n := 6)) ?_) | refine bstep (w_frz 3 (row)) ?_ | refine ⟨snc, cs false row, cs_whole, ?_⟩ | refine k0 ?_ | refine jA fun _ => ?_ | refine jB fun _ => ?_ | refine kC (fun _ => ?_) fun _ => ?_ | (apply cx66; refine kl tx66 ?_) | (apply cx101; refine kl tx101 ?_) | (apply cx104; refine kl tx104 ?_) | refine jst ?_ | exact ⟨rfl, rfl⟩ | exact jV | fail))
  by_cases w1 : w = 1
  · subst w1
    rw [oaW_1]
    repeat' ((conv => whnf); (first | (apply cx38; refine kl (hO) ?_) | (apply cx72; refine kl (hB) ?_) | (apply cx66; refine kl (tx66 (c := (blC e 12).2) (l := [-1, 0, 1, 3])) ?_) | refine And.intro ⟨rfl, rfl, rfl⟩ ?_ | refine bstep (w_frz 3 (row)) ?_ | refine ⟨snc, cs false row, cs_whole, ?_⟩ | refine k0 ?_ | refine jA fun _ => ?_ | refine jB fun _ => ?_ | refine kC (fun _ => ?_) fun _ => ?_ | (apply cx101; refine kl tx101 ?_) | (apply cx104; refine kl tx104 ?_) | refine jst ?_ | exact ⟨rfl, rfl⟩ | exact jV | fail))
  by_cases w2 : w = 2
  · subst w2
    rw [oaW_2 hp]
    repeat' ((conv => whnf); (first | (apply cx38; refine kl (hO) ?_) | (apply cx72; refine kl (hB) ?_) | (apply cx101; refine kl (tx101 (s := s) (c := (blC e 12).2)) ?_) | refine bstep (w_frz 5 ((raC (blC e 12).2 s[0].cols).1)) ?_ | refine ⟨snc, cs false (raC (blC e 12).2 s[0].cols).1, cs_whole, ?_⟩ | refine k0 ?_ | refine jA fun _ => ?_ | refine jB fun _ => ?_ | refine kC (fun _ => ?_) fun _ => ?_ | (apply cx66; refine kl tx66 ?_) | (apply cx104; refine kl tx104 ?_) | refine jst ?_ | exact ⟨rfl, rfl⟩ | exact jV | fail))
  by_cases w3 : w = 3
  · subst w3
    rw [oaW_3]
    repeat' ((conv => whnf); (first | (apply cx38; refine kl (hO) ?_) | (apply cx72; refine kl (hB) ?_) | (apply cx104; refine kl (tx104 (c := (blC e 12).2)) ?_) | refine jap (N := cs true ([(vdC (blC e 12).2).1] : List Vl)) (apE (xs := row) ?_) | refine bstep (w_frz 85 (row ++ [(vdC (blC e 12).2).1])) ?_ | refine ⟨snc, cs false (row ++ [(vdC (blC e 12).2).1]), cs_whole, ?_⟩ | refine k0 ?_ | refine jA fun _ => ?_ | refine jB fun _ => ?_ | refine kC (fun _ => ?_) fun _ => ?_ | (apply cx66; refine kl tx66 ?_) | (apply cx101; refine kl tx101 ?_) | refine jst ?_ | exact ⟨rfl, rfl⟩ | exact jV | fail))
  rw [oaW_4 w0 w1 w2 w3]
  repeat' ((conv => whnf); (first | (apply cx38; refine kl (hO) ?_) | (apply cx72; refine kl (hB) ?_) | refine bstep (w_frz 3 (row)) ?_ | refine ⟨snc, cs false row, cs_whole, ?_⟩ | refine k0 ?_ | refine jA fun _ => ?_ | refine jB fun _ => ?_ | refine kC (fun _ => ?_) fun _ => ?_ | (apply cx66; refine kl tx66 ?_) | (apply cx101; refine kl tx101 ?_) | (apply cx104; refine kl tx104 ?_) | refine jst ?_ | exact ⟨rfl, rfl⟩ | exact jV | fail))

theorem cx69 {P : Program} {X : FuncId → List Arg → List (Bool × List Cell) → List (Option (List Cell)) → Prop} {a : List Arg} {Q : List (Bool × List Cell) → List (Option (List Cell)) → Prop} (h : ∃ b vals outs, a = b ∧ D P X (.call 69 b vals outs) ∧ Q vals outs) : CallS P X 69 a Q := ⟨h⟩

theorem osR_s {s : List Df} {i : Nat} {l : List Opn} {c : Cur} : osR s (i + 1) l c = osR s i (l ++ [(opC1 s c).1]) (opC1 s c).2 := rfl

theorem osR_0 {s : List Df} {l : List Opn} {c : Cur} : osR s 0 l c = (l, c) := rfl

attribute [local irreducible] osR

set_option maxHeartbeats 2000000 in
set_option maxRecDepth 100000 in
theorem tx70 {s : List Df} {c : Cur} {most : Nat} (hc : CurOk c := by first | assumption | omega | (simp; done) | (simp; omega)) (hs : ScB s := by first | assumption | omega | (simp; done) | (simp; omega)) (hm : 0 < most ∧ most ≤ 100 := by first | assumption | omega | (simp; done) | (simp; omega)) : T 70 [aC c, aE s, aI (most : Nat)] [(false, [.sl true (osC c s most).1.length 3 (cs false (osC c s most).1)])] [some (cuC (osC c s most).2), none, none] := by
  refine w_call md [] Tryz.func70 rfl ?_
  have hz := hs.z
  have kb := blC_ok (n := most) hc
  have hb := blC_lt (c := c) hm.1
  obtain ⟨k, hk⟩ : ∃ k, (blC c most).1 = k := ⟨_, rfl⟩
  have hB : T 72 [aC c, aI (most : Nat)] [vI (k : Nat)] [some (cuC (blC c most).2), none] := by
    have h := tx72 (c := c) (n := most) hc (by omega)
    rwa [hk] at h
  have e : osC c s most = osR s (1 + k) [] (blC c most).2 := by unfold osC; rw [hk]
  rw [e]
  generalize hfin : osR s (1 + k) [] (blC c most).2 = fin
  repeat' ((conv => whnf); (first | (apply cx72; refine kl (hB) ?_) | refine k0 ?_ | refine jA fun _ => ?_ | refine jB fun _ => ?_ | refine kC (fun _ => ?_) fun _ => ?_ | (apply cx38; refine kl tx38 ?_) | refine jst ?_ | exact ⟨rfl, rfl⟩ | exact jV | fail))
  conv => whnf
  refine loopk (ι := Nat × List Opn × Cur) (fun i => (osR s i.1 i.2.1 i.2.2 = fin ∧ i.2.1.length + i.1 ≤ 200) ∧ CurOk i.2.2) (fun i => i.1) (1 + k, [], (blC c most).2) [0, 1] (fun i => [(7, .v false [.ref 3 0 i.2.1.length 3]), (8, .v false [i6 (i.1 : Nat)])]) [some fun i => some (true, cuC i.2.2), none, none, some fun i => some (true, cs false i.2.1)] ?_
  refine ⟨⟨⟨hfin, by simp only [List.length_nil]; omega⟩, kb⟩, ?_, fun z hz => ?_⟩
  · exact jw []
  · obtain ⟨i, l, u⟩ := z
    obtain ⟨⟨hx, hl⟩, hu⟩ := hz
    simp only at hx hl hu
    repeat' ((conv => whnf); (first | refine k0 ?_ | (apply cx72; refine kl tx72 ?_) | (apply cx38; refine kl tx38 ?_) | refine jst ?_ | exact ⟨rfl, rfl⟩ | exact jV | fail))
    conv => whnf
    refine ⟨fun hlt => ?_, fun hge => ?_⟩
    · obtain ⟨n, rfl⟩ : ∃ n, i = n + 1 := ⟨i - 1, by omega⟩
      rw [osR_s] at hx
      have hO := tx38 (s := s) (c := u) hu hs
      have hku := opC1_ok (s := s) hu
      obtain ⟨o, e2, ho⟩ : ∃ o e2, opC1 s u = (o, e2) := ⟨_, _, rfl⟩
      rw [ho] at hO hku hx
      simp only at hO hku hx
      have hsx : (n + 1, l, u).2.1.length = l.length := rfl
      have hsy : (n + 1, l, u).1 = n + 1 := rfl
      repeat' ((conv => whnf); (first | (apply cx38; refine kl (hO) ?_) | refine jap (N := cs false ([o] : List Opn)) (apE (o := false) (xs := l) (ys := [o]) ?_) | refine k0 ?_ | refine jA fun _ => ?_ | refine jB fun _ => ?_ | refine kC (fun _ => ?_) fun _ => ?_ | (apply cx72; refine kl tx72 ?_) | refine jst ?_ | exact ⟨rfl, rfl⟩ | exact jV | fail))
      refine ⟨⟨(n, l ++ [o], e2), ⟨⟨hx, by simp only [List.length_append, List.length_singleton]; omega⟩, hku⟩⟩, by simp only; omega, ?_⟩
      exact jw []
    · obtain rfl : i = 0 := by omega
      rw [osR_0] at hx
      subst hx
      repeat' ((conv => whnf); (first | refine k0 ?_ | refine jA fun _ => ?_ | refine jB fun _ => ?_ | refine kC (fun _ => ?_) fun _ => ?_ | (apply cx72; refine kl tx72 ?_) | (apply cx38; refine kl tx38 ?_) | refine jst ?_ | exact ⟨rfl, rfl⟩ | exact jV | fail))

theorem cx70 {P : Program} {X : FuncId → List Arg → List (Bool × List Cell) → List (Option (List Cell)) → Prop} {a : List Arg} {Q : List (Bool × List Cell) → List (Option (List Cell)) → Prop} (h : ∃ b vals outs, a = b ∧ D P X (.call 70 b vals outs) ∧ Q vals outs) : CallS P X 70 a Q := ⟨h⟩
end

section
open Go Go.RowKit Go.IntWalk

open Enc (sz cs)

attribute [local irreducible] IntKind.wrap

/-! ### A table is drawn -/

attribute [local irreducible] blC inC sIC byC csR p2C nmC

abbrev nmL : List ByteArray := [⟨#[97]⟩, ⟨#[98]⟩, ⟨#[99]⟩]

theorem nmL_g {i : Nat} (h : i < 3) : nmL[i] = nmC i := by
  unfold nmC
  rcases (show i = 0 ∨ i = 1 ∨ i = 2 by omega) with rfl | rfl | rfl <;> rfl

theorem csQ_y {i : Nat} {l : List Cl} {c : Cur} {k : Nat} {b : Bool} (h : i < 1 + (blC c 3).1) (hi : i < 3) (hk : (blC (blC c 3).2 4).1 = k) (hb : (onC (blC (blC c 3).2 4).2 2).1 = b) :
    csR (4 - i) i l c = csR (4 - (i + 1)) (i + 1) (l ++ [⟨nmL[i], ((1 + k : Nat) : Int), b⟩]) (blC (blC (blC c 3).2 4).2 2).2 := by
  rw [show 4 - i = (4 - (i + 1)) + 1 by omega, csR, if_pos ⟨h, hi⟩, nmL_g hi, ← hk, ← hb]; rfl

theorem csQ_n {i : Nat} {l : List Cl} {c : Cur} (hi : i ≤ 3) (h : ¬ (i < 1 + (blC c 3).1 ∧ i < 3)) : csR (4 - i) i l c = (l, (blC c 3).2) := by
  rw [show 4 - i = (3 - i) + 1 by omega, csR, if_neg h]

theorem pm_case {c e1 : Cur} {l : List Cl} (k1 : CurOk e1) (hx : dcC c = (l, e1)) (h1 : 1 < l.length) : ∃ ep, CurOk ep ∧
    (((l[1].null = true ∧ ∃ b3, T 71 [aC e1, aI (3 : Nat)] [vB b3] [some (cuC ep), none] ∧ dpC c = ([⟨0, b3⟩], ep)) ∨
    (l[1].null = false ∧ ∃ b3 e2, T 71 [aC e1, aI (3 : Nat)] [vB b3] [some (cuC e2), none] ∧ T 71 [aC e2, aI (2 : Nat)] [vB false] [some (cuC ep), none] ∧ dpC c = ([⟨0, b3⟩], ep))) ∨
    ((l[1].null = false ∧ ∃ b3 e2 e3, T 71 [aC e1, aI (3 : Nat)] [vB b3] [some (cuC e2), none] ∧ T 71 [aC e2, aI (2 : Nat)] [vB true] [some (cuC e3), none] ∧ T 71 [aC e3, aI (2 : Nat)] [vB false] [some (cuC ep), none] ∧ dpC c = ([⟨0, b3⟩, ⟨1, false⟩], ep)) ∨
    (l[1].null = false ∧ ∃ b3 e2 e3, T 71 [aC e1, aI (3 : Nat)] [vB b3] [some (cuC e2), none] ∧ T 71 [aC e2, aI (2 : Nat)] [vB true] [some (cuC e3), none] ∧ T 71 [aC e3, aI (2 : Nat)] [vB true] [some (cuC ep), none] ∧ dpC c = ([⟨0, b3⟩, ⟨1, true⟩], ep)))) := by
  have k2 := blC_ok (n := 3) k1
  have k3 := blC_ok (n := 2) k2
  have k4 := blC_ok (n := 2) k3
  have e : dpC c = pmC e1 l[1].null := by
    unfold dpC
    rw [hx]
    simp only
    rw [List.getD_eq_getElem?_getD, List.getElem?_eq_getElem h1]; rfl
  rw [e]
  cases hnu : l[1].null
  · cases hb4 : (onC (blC e1 3).2 2).1
    · refine ⟨_, k3, .inl (.inr ⟨rfl, _, _, onT rfl k1 (by decide), onT hb4 k2 (by decide), ?_⟩)⟩
      unfold pmC
      rw [if_pos rfl, if_neg (by rw [show (onC (onC e1 3).2 2).1 = false from hb4]; decide)]
    · cases hb5 : (onC (blC (blC e1 3).2 2).2 2).1
      · refine ⟨_, k4, .inr (.inl ⟨rfl, _, _, _, onT rfl k1 (by decide), onT hb4 k2 (by decide), onT hb5 k3 (by decide), ?_⟩)⟩
        unfold pmC
        rw [if_pos rfl, if_pos hb4, show (onC (onC (onC e1 3).2 2).2 2).1 = false from hb5]
      · refine ⟨_, k4, .inr (.inr ⟨rfl, _, _, _, onT rfl k1 (by decide), onT hb4 k2 (by decide), onT hb5 k3 (by decide), ?_⟩)⟩
        unfold pmC
        rw [if_pos rfl, if_pos hb4, show (onC (onC (onC e1 3).2 2).2 2).1 = true from hb5]
  · refine ⟨_, k2, .inl (.inl ⟨rfl, _, onT rfl k1 (by decide), ?_⟩)⟩
    unfold pmC
    rw [if_neg (by simp)]

theorem dx_0 {c e1 ep : Cur} {l : List Cl} {p : List By} (hx : dcC c = (l, e1)) (hp : dpC c = (p, ep)) : ixR l.length (blC ep 3).1 [] (blC ep 3).2 = dxC c := by
  unfold dxC
  rw [hx, hp]

abbrev uvL : List ByteArray := [⟨#[117]⟩, ⟨#[118]⟩]

theorem ixR_y {n j : Nat} {l : List Ix} {c : Cur} {u : Bool} (hj : j + 1 < 3) (hu : (onC (sIC c uvL).2 2).1 = u) :
    ixR n (j + 1) l c = ixR n j (l ++ [⟨(sIC c uvL).1 ++ nmL[j + 1], u, (p2C (blC (sIC c uvL).2 2).2 n).1⟩]) (p2C (blC (sIC c uvL).2 2).2 n).2 := by
  rw [nmL_g hj, ← hu]; rfl

theorem uv_nm {c : Cur} {j : Nat} {h : j < nmL.length} : (sIC c uvL).1.size + nmL[j].size ≤ 9223372036854775807 := by
  have h1 := sIC_mem (c := c) (l := uvL) (by simp)
  have h2 := List.getElem_mem h
  generalize (sIC c uvL).1 = x at *
  generalize nmL[j] = y at *
  simp only [List.mem_cons, List.not_mem_nil, or_false] at h1 h2
  have e1 : x.size ≤ 1 := by rcases h1 with h | h <;> (rw [h]; decide)
  have e2 : y.size ≤ 1 := by rcases h2 with h | h | h <;> (rw [h]; decide)
  omega

theorem cutQ {c : Cur} {G : Prop} {Q : List By → Cur → Prop} (zh1 : (∀ p e, dpC c = (p, e) → CurOk e → Q p e) → G) (zh2 : ∀ p e, dpC c = (p, e) → CurOk e → Q p e) : G := zh1 zh2

theorem ix_app {l : List Ix} {s : ByteArray} {u : Bool} {p : List By} : cs true l ++ [s1 s, b1 u] ++ [slE true p] ++ [] = cs true (l ++ [(⟨s, u, p⟩ : Ix)]) := by
  rw [Enc.app, List.append_nil, List.append_assoc]; rfl

theorem len1 {α : Type} {l : List α} {x : α} : l.length + 1 = (l ++ [x]).length := by simp

set_option maxHeartbeats 2000000 in
set_option maxRecDepth 100000 in
theorem tx73 {c : Cur} {name : ByteArray} (hc : CurOk c := by first | assumption | omega | (simp; done) | (simp; omega)) : T 73 [aC c, aS name] [(true, dfC true (dfD c name).1)] [some (cuC (dfD c name).2), none] := by
  refine w_call md [[3]] Tryz.func73 rfl ?_
  have ki := inC_ok (l := [1, 1, 3, 2]) hc
  repeat' ((conv => whnf); (first | (apply cx66; refine kl (tx66 (c := c) (l := [1, 1, 3, 2])) ?_) | refine And.intro ⟨rfl, rfl, rfl⟩ ?_ | refine k0 ?_ | refine jA fun _ => ?_ | refine jB fun _ => ?_ | refine kC (fun _ => ?_) fun _ => ?_ | (apply cx72; refine kl tx72 ?_) | (apply cx71; refine kl tx71 ?_) | (apply cx106; refine kl tx106 ?_) | (apply cx107; refine kl tx107 ?_) | refine jst ?_ | exact ⟨rfl, rfl⟩ | exact jV | fail))
  conv => whnf
  refine loopk (ι := Nat × List Cl × Cur) (fun i => (i.1 ≤ 3 ∧ csR (4 - i.1) i.1 i.2.1 i.2.2 = dcC c) ∧ (i.2.1.length = i.1 + 1 ∧ CurOk i.2.2)) (fun i => 4 - i.1) (0, [⟨⟨#[105, 100]⟩, (inC c [1, 1, 3, 2]).1, false⟩], (inC c [1, 1, 3, 2]).2) [0, 4, 5, 6] (fun i => [(7, .v false [i6 i.1])]) [some fun i => some (true, cuC i.2.2), none, none, none, some fun i => nE i.2.1, some fun i => some (true, [s1 name, .ref 4 0 i.2.1.length 3, .nil, .nil]), some fun _ => nE nmL] ?_
  refine ⟨⟨⟨Nat.zero_le _, rfl⟩, rfl, ki⟩, ?_, fun z hz => ?_⟩
  · exact jw [5]
  · obtain ⟨i, l, e⟩ := z
    obtain ⟨⟨hi, hx⟩, hl, he⟩ := hz
    simp only at hi hx hl he
    have k1 := blC_ok (n := 3) he
    have hb1 := blC_lt (c := e) (n := 3) (by decide)
    by_cases hA : i < 1 + (blC e 3).1 ∧ i < 3
    · have k2 := blC_ok (n := 4) k1
      have k3 := blC_ok (n := 2) k2
      obtain ⟨k, hk⟩ : ∃ k, (blC (blC e 3).2 4).1 = k := ⟨_, rfl⟩
      obtain ⟨b, hb⟩ : ∃ b, (onC (blC (blC e 3).2 4).2 2).1 = b := ⟨_, rfl⟩
      have hb2 := blC_lt (c := (blC e 3).2) (n := 4) (by decide)
      rw [hk] at hb2
      rw [csQ_y hA.1 hA.2 hk hb] at hx
      have hO := onT hb k2 (by decide)
      have hK : T 72 [aC (blC e 3).2, aI (4 : Nat)] [vI (k : Nat)] [some (cuC (blC (blC e 3).2 4).2), none] := by
        have h := tx72 (c := (blC e 3).2) (n := 4) k1 (by decide)
        rwa [hk] at h
      have hA2 : i < nmL.length := hA.2
      have hll : (l ++ [(⟨nmL[i], ((1 + k : Nat) : Int), b⟩ : Cl)]).length = i + 1 + 1 := by rw [List.length_append, List.length_singleton]; omega
      cases b
      all_goals
        repeat' ((conv => whnf); (first | (apply cx72; refine kl (tx72 (c := e) (n := 3)) ?_) | (apply cx72; refine kl (hK) ?_) | (apply cx71; refine kl (hO) ?_) | refine ko (jc (xs := nmL) (i := i) (h := hA.2)) ?_ | refine jap (N := cs true ([⟨nmL[i], ((1 + k : Nat) : Int), false⟩] : List Cl)) (apE (xs := l) ?_) | refine jap (N := cs true ([⟨nmL[i], ((1 + k : Nat) : Int), true⟩] : List Cl)) (apE (xs := l) ?_) | refine k0 ?_ | refine jA fun _ => ?_ | refine jB fun _ => ?_ | refine kC (fun _ => ?_) fun _ => ?_ | (apply cx66; refine kl tx66 ?_) | (apply cx106; refine kl tx106 ?_) | (apply cx107; refine kl tx107 ?_) | refine jst ?_ | exact ⟨rfl, rfl⟩ | exact jV | fail))
        refine ⟨⟨(i + 1, l ++ [⟨nmL[i], ((1 + k : Nat) : Int), _⟩], _), ⟨⟨hA.2, hx⟩, hll, k3⟩⟩, by simp only; omega, ?_⟩
        exact jw [5]
    · rw [csQ_n hi hA] at hx
      obtain ⟨e1, he1⟩ : ∃ e1, (blC e 3).2 = e1 := ⟨_, rfl⟩
      rw [he1] at hx k1
      have hB : T 72 [aC e, aI (3 : Nat)] [vI ((blC e 3).1 : Nat)] [some (cuC e1), none] := by
        have h := tx72 (c := e) (n := 3) he (by decide)
        rwa [he1] at h
      have hl2 : 2 ≤ l.length := by
        have h := (dcC_len (c := c)).1
        rwa [← hx] at h
      apply cutQ (c := c)
      case zh1 =>
        intro key
        obtain ⟨ep, kp, hc⟩ := pm_case (c := c) k1 hx.symm (by omega)
        rcases hc with (⟨hnu, b3, hO3, hp⟩ | ⟨hnu, b3, e2, hO3, hO4, hp⟩) | (⟨hnu, b3, e2, e3, hO3, hO4, hO5, hp⟩ | ⟨hnu, b3, e2, e3, hO3, hO4, hO5, hp⟩)
        all_goals
          have hsn : (i, l, e).2.1.length = l.length := rfl
          cases b3
          all_goals
            obtain ⟨prim, hprim⟩ : ∃ p, p = (dpC c).1 := ⟨_, rfl⟩
            have hpp : dpC c = (prim, ep) := by rw [hprim, hp]
            rw [hp] at hprim
            simp only at hprim
            have hk0 := blC_lt (c := ep) (n := 3) (by decide)
            have kk := blC_ok (n := 3) kp
            repeat' ((conv => whnf); (first | (apply cx72; refine kl (hB) ?_) | (apply cx71; refine kl (hO3) ?_) | (apply cx71; refine kl (hO4) ?_) | (apply cx71; refine kl (hO5) ?_) | (apply cx72; refine kl (tx72 (c := ep) (n := 3)) ?_) | refine ko ((ct (xs := l) (i := 1) (off := 2) (n := 1) (by omega) (by decide)).trans (congrArg (fun b => some [b1 b]) hnu)) ?_ | refine Exists.intro _ (Exists.intro (cs true ([⟨1, false⟩] : List By)) (And.intro rfl (And.intro ⟨Nat.le_refl _, bgb (by omega), bg (by omega)⟩ (apE (o := true) (xs := ([⟨0, false⟩] : List By)) ?_)))) | refine Exists.intro _ (Exists.intro (cs true ([⟨1, false⟩] : List By)) (And.intro rfl (And.intro ⟨Nat.le_refl _, bgb (by omega), bg (by omega)⟩ (apE (o := true) (xs := ([⟨0, true⟩] : List By)) ?_)))) | refine Exists.intro _ (Exists.intro (cs true ([⟨1, true⟩] : List By)) (And.intro rfl (And.intro ⟨Nat.le_refl _, bgb (by omega), bg (by omega)⟩ (apE (o := true) (xs := ([⟨0, false⟩] : List By)) ?_)))) | refine Exists.intro _ (Exists.intro (cs true ([⟨1, true⟩] : List By)) (And.intro rfl (And.intro ⟨Nat.le_refl _, bgb (by omega), bg (by omega)⟩ (apE (o := true) (xs := ([⟨0, true⟩] : List By)) ?_)))) | refine k0 ?_ | refine jA fun _ => ?_ | refine jB fun _ => ?_ | refine kC (fun _ => ?_) fun _ => ?_ | (apply cx66; refine kl tx66 ?_) | (apply cx106; refine kl tx106 ?_) | (apply cx107; refine kl tx107 ?_) | refine jst ?_ | exact ⟨rfl, rfl⟩ | exact jV | fail))
            conv => whnf
            refine loopk (ι := Nat × List Ix × Cur) (fun i => (i.1 ≤ 2 ∧ ixR l.length i.1 i.2.1 i.2.2 = dxC c) ∧ CurOk i.2.2 ∧ i.2.1.length ≤ 2 - i.1) (fun i => i.1) ((blC ep 3).1, [], (blC ep 3).2) [0, 4, 5, 6] (fun i => [(8, .v false [i6 (i.1 : Nat)])]) [some fun i => some (true, cuC i.2.2), none, none, none, some fun _ => nE l, some fun i => some (true, [s1 name, .ref 4 0 l.length 3, .ref 7 0 prim.length 2, .ref 8 0 i.2.1.length 3]), some fun _ => nE nmL, some fun _ => nE prim, some fun i => nE i.2.1] ?_
            refine ⟨⟨⟨Nat.le_of_lt_succ hk0, dx_0 hx.symm hp⟩, kk, Nat.zero_le _⟩, ?_, key prim ep hpp kp⟩
            exact (w_nilN 5 3 [s1 name, .ref 4 0 l.length 3, .ref _ 0 _ 2] []).trans (w_autoX [5] (by (conv => whnf); exact And.intro (by kernel_rfl) (And.intro (by kernel_rfl) (by repeat' (first | (with_reducible exact rfl) | ((conv => whnf); first | exact trivial | exact (by rw [hprim]; exact ⟨rfl, by simp, rfl⟩) | exact (by rw [hprim]; rfl) | exact rfl | exact tvi (by first | omega | (dsimp only; omega) | (simp; done)) | exact tvr (by first | omega | (dsimp only; omega) | (simp; done) | (simp; omega)) | exact ⟨rfl, clo_i, by first | rfl | rw [List.take_length] | assumption⟩ | refine And.intro ?_ ?_))))))
      case zh2 =>
        intro prim ep hp kp z hz
        obtain ⟨j, x, u⟩ := z
        obtain ⟨⟨hj, hix⟩, hu, hxl⟩ := hz
        simp only at hj hix hu hxl
        repeat' ((conv => whnf); (first | refine k0 ?_ | (apply cx66; refine kl tx66 ?_) | (apply cx72; refine kl tx72 ?_) | (apply cx71; refine kl tx71 ?_) | (apply cx106; refine kl tx106 ?_) | (apply cx107; refine kl tx107 ?_) | refine jst ?_ | exact ⟨rfl, rfl⟩ | exact jV | fail))
        conv => whnf
        refine ⟨fun hlt => ?_, fun hge => ?_⟩
        · obtain ⟨m, rfl⟩ : ∃ m, j = m + 1 := ⟨j - 1, by omega⟩
          have u1 := sIC_ok (l := uvL) hu
          have u2 := blC_ok (n := 2) u1
          have u3 := p2C_ok (n := l.length) u2
          obtain ⟨w, hw⟩ : ∃ w, (onC (sIC u uvL).2 2).1 = w := ⟨_, rfl⟩
          rw [ixR_y (by omega) hw] at hix
          have hO := onT hw u1 (by decide)
          have hj2 : m + 1 < nmL.length := (by omega : m + 1 < 3)
          have hpl := p2C_len (c := (blC (sIC u uvL).2 2).2) (n := l.length)
          have hsx : (m + 1, x, u).2.1.length = x.length := rfl
          have hsy : (m + 1, x, u).1 = m + 1 := rfl
          have hsz := uv_nm (c := u) (h := hj2)
          cases w
          all_goals
            repeat' ((conv => whnf); (first | refine And.intro hsz ?_ | (apply cx106; refine kl (tx106 (c := u) (l := uvL)) ?_) | (apply cx71; refine kl (hO) ?_) | (apply cx107; refine kl (tx107 (c := (blC (sIC u uvL).2 2).2) (n := l.length)) ?_) | refine And.intro ⟨rfl, rfl, rfl⟩ ?_ | refine ko (jc (xs := nmL) (i := m + 1) (h := hj2)) ?_ | refine Exists.intro _ (Exists.intro _ (And.intro rfl (And.intro ⟨by simp <;> omega, bgb (by omega), bg (by omega)⟩ (apR (xs := x) ?_)))) | refine k0 ?_ | refine jA fun _ => ?_ | refine jB fun _ => ?_ | refine kC (fun _ => ?_) fun _ => ?_ | (apply cx66; refine kl tx66 ?_) | (apply cx72; refine kl tx72 ?_) | refine jst ?_ | exact ⟨rfl, rfl⟩ | exact jV | fail))
            refine ⟨⟨(m, x ++ [⟨(sIC u uvL).1 ++ nmL[m + 1], _, (p2C (blC (sIC u uvL).2 2).2 l.length).1⟩], (p2C (blC (sIC u uvL).2 2).2 l.length).2), ⟨⟨by simp only; omega, hix⟩, u3, by simp only [List.length_append, List.length_singleton]; omega⟩⟩, by simp only; omega, ?_⟩
            first | refine (w_inE 313 265 (cs true x ++ [s1 ((sIC u uvL).1 ++ nmL[m + 1]), b1 true]) (p2C (blC (sIC u uvL).2 2).2 l.length).1 [] (p2C (blC (sIC u uvL).2 2).2 l.length).1.length 2 ix_app (h1 := by rw [List.append_nil, List.append_assoc]; rfl)).trans ?_ | refine (w_inE 313 265 (cs true x ++ [s1 ((sIC u uvL).1 ++ nmL[m + 1]), b1 false]) (p2C (blC (sIC u uvL).2 2).2 l.length).1 [] (p2C (blC (sIC u uvL).2 2).2 l.length).1.length 2 ix_app (h1 := by rw [List.append_nil, List.append_assoc]; rfl)).trans ?_
            exact w_autoX [5] (by (conv => whnf); exact And.intro (by kernel_rfl) (And.intro (by kernel_rfl) (by repeat' (first | (with_reducible exact rfl) | ((conv => whnf); first | exact trivial | exact (by rw [← len1]; exact ⟨rfl, rfl⟩) | exact (by rw [← len1]; rfl) | exact rfl | exact tvi (by first | omega | (dsimp only; omega) | (simp; done)) | exact tvr (by first | omega | (dsimp only; omega) | (simp; done) | (simp; omega)) | exact ⟨rfl, clo_i, by first | rfl | rw [List.take_length] | assumption⟩ | refine And.intro ?_ ?_)))))
        · obtain rfl : j = 0 := by omega
          have hd : dfD c name = (⟨name, l, prim, x⟩, u) := by
            have hix : (x, u) = dxC c := hix
            unfold dfD
            rw [← hx, ← hix, hp]
          rw [hd]
          repeat' ((conv => whnf); (first | ((with_reducible apply bfin); exact ((w_inE 2 8 [s1 name, .ref 4 0 l.length 3, .ref 7 0 prim.length 2] x [] x.length 3 rfl).trans ((w_inE 2 7 [s1 name, .ref 4 0 l.length 3] prim [slE true x] prim.length 2 rfl).trans (w_inE 2 4 [s1 name] l [slE true prim, slE true x] l.length 3 rfl)))) | refine k0 ?_ | refine jA fun _ => ?_ | refine jB fun _ => ?_ | refine kC (fun _ => ?_) fun _ => ?_ | (apply cx66; refine kl tx66 ?_) | (apply cx72; refine kl tx72 ?_) | (apply cx71; refine kl tx71 ?_) | (apply cx106; refine kl tx106 ?_) | (apply cx107; refine kl tx107 ?_) | refine jst ?_ | exact ⟨rfl, rfl⟩ | exact jV | fail))

theorem cx73 {P : Program} {X : FuncId → List Arg → List (Bool × List Cell) → List (Option (List Cell)) → Prop} {a : List Arg} {Q : List (Bool × List Cell) → List (Option (List Cell)) → Prop} (h : ∃ b vals outs, a = b ∧ D P X (.call 73 b vals outs) ∧ Q vals outs) : CallS P X 73 a Q := ⟨h⟩
end

section
open Go Go.RowKit Go.IntWalk

open Enc (sz cs)

attribute [local irreducible] IntKind.wrap

/-! ### Lists of tables are drawn -/

attribute [local irreducible] blC inC sIC byC csR p2C dfD

theorem ldC_n {c c1 : Cur} {d1 : Df} (h1 : dfD c ⟨#[116]⟩ = (d1, c1)) (h : (onC c1 3).1 = false) : ldC c = ([d1], (blC c1 3).2) := by
  unfold ldC
  rw [h1]
  exact if_neg (by rw [h]; decide)

theorem ldC_y {c c1 c3 : Cur} {d1 d2 : Df} (h1 : dfD c ⟨#[116]⟩ = (d1, c1)) (h : (onC c1 3).1 = true) (h2 : dfD (blC c1 3).2 ⟨#[117]⟩ = (d2, c3)) : ldC c = ([d1, d2], c3) := by
  unfold ldC
  rw [h1]
  simp only
  rw [if_pos h, show (onC c1 3).2 = (blC c1 3).2 from rfl, h2]

attribute [local irreducible] ldC

set_option maxHeartbeats 2000000 in
set_option maxRecDepth 100000 in
theorem tx35 {c : Cur} (hc : CurOk c := by first | assumption | omega | (simp; done) | (simp; omega)) : T 35 [aC c] [vE (ldC c).1] [some (cuC (ldC c).2)] := by
  refine w_call md [] Tryz.func35 rfl ?_
  obtain ⟨d1, c1, h1⟩ : ∃ d1 c1, dfD c ⟨#[116]⟩ = (d1, c1) := ⟨_, _, rfl⟩
  have k1 : CurOk c1 := by
    have := dfD_ok (name := ⟨#[116]⟩) hc
    rwa [h1] at this
  have hD : T 73 [aC c, aS ⟨#[116]⟩] [(true, dfC true d1)] [some (cuC c1), none] := by
    have h := tx73 (c := c) (name := ⟨#[116]⟩) hc
    rwa [h1] at h
  have k2 := blC_ok (n := 3) k1
  cases h3 : (onC c1 3).1
  · rw [ldC_n h1 h3]
    have hO := onT h3 k1 (by decide)
    repeat' ((conv => whnf); (first | (apply cx73; refine kl (hD) ?_) | (apply cx71; refine kl (hO) ?_) | refine bstep ((w_inE 4 1 [s1 d1.name] d1.cols [.ref 2 0 d1.prim.length 2, .ref 3 0 d1.idx.length 3] d1.cols.length 3 rfl).trans ((w_inE 4 2 [s1 d1.name, slE true d1.cols] d1.prim [.ref 3 0 d1.idx.length 3] d1.prim.length 2 rfl).trans (w_inE 4 3 [s1 d1.name, slE true d1.cols, slE true d1.prim] d1.idx [] d1.idx.length 3 rfl))) ?_ | refine k0 ?_ | refine jA fun _ => ?_ | refine jB fun _ => ?_ | refine kC (fun _ => ?_) fun _ => ?_ | refine jst ?_ | exact ⟨rfl, rfl⟩ | exact jV | fail))
  · obtain ⟨d2, c3, h2⟩ : ∃ d2 c3, dfD (blC c1 3).2 ⟨#[117]⟩ = (d2, c3) := ⟨_, _, rfl⟩
    have hE : T 73 [aC (blC c1 3).2, aS ⟨#[117]⟩] [(true, dfC true d2)] [some (cuC c3), none] := by
      have h := tx73 (c := (blC c1 3).2) (name := ⟨#[117]⟩) k2
      rwa [h2] at h
    rw [ldC_y h1 h3 h2]
    have hO := onT h3 k1 (by decide)
    repeat' ((conv => whnf); (first | (apply cx73; refine kl (hD) ?_) | (apply cx73; refine kl (hE) ?_) | (apply cx71; refine kl (hO) ?_) | refine Exists.intro _ (Exists.intro _ (And.intro rfl (And.intro ⟨Nat.le_refl _, bgb (by omega), bg (by omega)⟩ (apR (xs := [d1]) ?_)))) | refine bstep ((w_inE 4 1 [s1 d1.name] d1.cols [.ref 2 0 d1.prim.length 2, .ref 3 0 d1.idx.length 3] d1.cols.length 3 rfl).trans ((w_inE 4 2 [s1 d1.name, slE true d1.cols] d1.prim [.ref 3 0 d1.idx.length 3] d1.prim.length 2 rfl).trans (w_inE 4 3 [s1 d1.name, slE true d1.cols, slE true d1.prim] d1.idx [] d1.idx.length 3 rfl))) ?_ | refine And.intro ⟨rfl, rfl, by decide, rfl⟩ ?_ | refine bstep (((w_inE 9 5 (cs true [d1] ++ [s1 d2.name]) d2.cols [.ref 6 0 d2.prim.length 2, .ref 7 0 d2.idx.length 3] d2.cols.length 3 rfl).trans ((w_inE 9 6 (cs true [d1] ++ [s1 d2.name, slE true d2.cols]) d2.prim [.ref 7 0 d2.idx.length 3] d2.prim.length 2 rfl).trans (w_inE 9 7 (cs true [d1] ++ [s1 d2.name, slE true d2.cols, slE true d2.prim]) d2.idx [] d2.idx.length 3 rfl)))) ?_ | refine k0 ?_ | refine jA fun _ => ?_ | refine jB fun _ => ?_ | refine kC (fun _ => ?_) fun _ => ?_ | refine jst ?_ | exact ⟨rfl, rfl⟩ | exact jV | fail))

theorem cx35 {P : Program} {X : FuncId → List Arg → List (Bool × List Cell) → List (Option (List Cell)) → Prop} {a : List Arg} {Q : List (Bool × List Cell) → List (Option (List Cell)) → Prop} (h : ∃ b vals outs, a = b ∧ D P X (.call 35 b vals outs) ∧ Q vals outs) : CallS P X 35 a Q := ⟨h⟩
end

section
open Go Go.RowKit Go.IntWalk

open Enc (sz cs)

attribute [local irreducible] IntKind.wrap

/-! ### A table, bent -/

attribute [local irreducible] blC inC sIC byC csR p2C dfD

abbrev naL : List ByteArray := [⟨#[]⟩, ⟨#[116, 97, 98, 108, 101]⟩, ⟨#[65]⟩, ⟨#[116, 50]⟩]

abbrev nbL : List ByteArray := [⟨#[105, 100]⟩, ⟨#[97]⟩, ⟨#[105, 110, 116]⟩, ⟨#[]⟩]

abbrev ncL : List ByteArray := [⟨#[117, 98]⟩, ⟨#[119]⟩, ⟨#[100, 101, 115, 99]⟩]

theorem gdk {l : List Cl} {k : Nat} (h : k < l.length) : l.getD k ⟨⟨#[]⟩, 0, false⟩ = l[k] := by rw [List.getD_eq_getElem?_getD, List.getElem?_eq_getElem h]; rfl

theorem anW_0 {d : Df} {k : Nat} {c : Cur} : anW d k 0 c = (⟨(sIC c naL).1, d.cols, d.prim, d.idx⟩, (sIC c naL).2) := if_pos rfl

theorem anW_1 {d : Df} {k : Nat} {c : Cur} (h : k < d.cols.length) : anW d k 1 c = (⟨d.name, d.cols.set k ⟨(sIC c nbL).1, d.cols[k].type, d.cols[k].null⟩, d.prim, d.idx⟩, (sIC c nbL).2) := by
  unfold anW; rw [if_neg (by decide), if_pos rfl, gdk h]

theorem anW_2 {d : Df} {k : Nat} {c : Cur} (h : k < d.cols.length) : anW d k 2 c = (⟨d.name, d.cols.set k ⟨d.cols[k].name, (blC c 6).1, d.cols[k].null⟩, d.prim, d.idx⟩, (blC c 6).2) := by
  unfold anW; rw [if_neg (by decide), if_neg (by decide), if_pos rfl, gdk h]

theorem anW_3 {d : Df} {k : Nat} {c : Cur} (h : k < d.cols.length) : anW d k 3 c = (⟨d.name, d.cols.set k ⟨d.cols[k].name, d.cols[k].type, !d.cols[k].null⟩, d.prim, d.idx⟩, c) := by
  unfold anW; rw [if_neg (by decide), if_neg (by decide), if_neg (by decide), if_pos rfl, gdk h]

theorem anW_4 {d : Df} {k : Nat} {c : Cur} : anW d k 4 c = (⟨d.name, d.cols, (p2C c (d.cols.length + 1)).1, d.idx⟩, (p2C c (d.cols.length + 1)).2) := by
  unfold anW; rw [if_neg (by decide), if_neg (by decide), if_neg (by decide), if_neg (by decide), if_pos rfl]

theorem anW_5 {d : Df} {k : Nat} {c : Cur} (h : 0 < d.prim.length) : anW d k 5 c = (⟨d.name, d.cols, d.prim ++ [d.prim[0]], d.idx⟩, c) := by
  unfold anW; rw [if_neg (by decide), if_neg (by decide), if_neg (by decide), if_neg (by decide), if_neg (by decide), if_pos rfl]
  rw [List.getD_eq_getElem?_getD, List.getElem?_eq_getElem h]; rfl

theorem anW_6 {d : Df} {k : Nat} {c : Cur} : anW d k 6 c = (⟨d.name, d.cols, d.prim, d.idx ++ [⟨(sIC c ncL).1, false, (p2C (sIC c ncL).2 (d.cols.length + 1)).1⟩]⟩, (p2C (sIC c ncL).2 (d.cols.length + 1)).2) := by
  unfold anW; rw [if_neg (by decide), if_neg (by decide), if_neg (by decide), if_neg (by decide), if_neg (by decide), if_neg (by decide), if_pos rfl]

theorem anW_7 {d : Df} {k : Nat} {c : Cur} : anW d k 7 c = (⟨d.name, d.cols.take (blC c 2).1, d.prim, d.idx⟩, (blC c 2).2) := by
  unfold anW; rw [if_neg (by decide), if_neg (by decide), if_neg (by decide), if_neg (by decide), if_neg (by decide), if_neg (by decide), if_neg (by decide), if_pos rfl]

theorem anW_8 {d : Df} {k : Nat} {c : Cur} : anW d k 8 c = (⟨d.name, (zcR 6 d.cols c).1, d.prim, d.idx⟩, (zcR 6 d.cols c).2) := by
  unfold anW; rw [if_neg (by decide), if_neg (by decide), if_neg (by decide), if_neg (by decide), if_neg (by decide), if_neg (by decide), if_neg (by decide), if_neg (by decide), if_pos rfl]

theorem anW_9 {d : Df} {k w : Nat} {c : Cur} (h0 : ¬ w = 0) (h1 : ¬ w = 1) (h2 : ¬ w = 2) (h3 : ¬ w = 3) (h4 : ¬ w = 4) (h5 : ¬ w = 5) (h6 : ¬ w = 6) (h7 : ¬ w = 7) (h8 : ¬ w = 8) : anW d k w c = (d, c) := by
  unfold anW; rw [if_neg h0, if_neg h1, if_neg h2, if_neg h3, if_neg h4, if_neg h5, if_neg h6, if_neg h7, if_neg h8]

theorem ptFd {α : Type} [Enc α] {o : Bool} {xs : List α} {i s off : Nat} {c : List Cell} {y : α} (h : i < xs.length) (hp : put (cs o [xs[i]]) off c = some (cs o [y])) (hs : sz α = s := by rfl) : put (cs o xs) (i * s + off) c = some (cs o (xs.set i y)) := by
  subst hs
  have e : xs.set i y = xs.take i ++ [y] ++ xs.drop (i + 1) := by
    rw [List.set_eq_take_append_cons_drop, if_pos h]; simp
  rw [e, Enc.app, Enc.app, cs_split h]
  exact put_mid (cs_take_len (o := o) (xs := xs) (Nat.le_of_lt h)).symm hp

theorem pmC_pos {c : Cur} {b : Bool} : 1 ≤ (pmC c b).1.length := by
  unfold pmC
  split
  · split <;> simp
  · simp

section

variable {k : Base} {h : Nat → Option Node} {w : World} {L : Nat → Nat × Nat} {F : Nat → List Nat} {U : Nat → Prop}

theorem Mem.shrink (m : Mem k h w L F U) {i : Nat} {c1 c2 : List Cell} (hi : h i = some (true, c1 ++ c2)) (hz : c1 ≠ []) :
    ∃ F', Mem k (upd h i (some (true, c1))) w L F' U ∧ Mono k h w L F U (upd h i (some (true, c1))) w L F' U := by
  obtain ⟨hUi, us, h1, h2, h3, _⟩ := m.node i _ hi
  obtain ⟨u1, u2, F1, F2, eu, eF, r1, r2⟩ := Rep.split h2
  have hne : c1 ++ c2 ≠ [] := by cases c1 with | nil => exact absurd rfl hz | cons a l => simp
  have OI : Own (upd h i (some (true, c1))) L (upd F i F1) i = (L i).1 :: F1 := by rw [own_of (upd_same _ _ _), upd_same, OB_ne hz]
  have OH : Own h L F i = (L i).1 :: F i := by rw [own_of hi, OB_ne hne]
  have OO : ∀ x, x ≠ i → Own (upd h i (some (true, c1))) L (upd F i F1) x = Own h L F x := fun x e => by simp [Own, upd_other _ _ e]
  have hO : ∀ x, ∀ b ∈ Own (upd h i (some (true, c1))) L (upd F i F1) x, b ∈ Own h L F x := fun x b hb => by
    by_cases e : x = i
    · subst e
      rw [OI] at hb
      rw [OH, eF]
      rcases List.mem_cons.1 hb with rfl | hb
      · exact List.mem_cons_self ..
      · exact List.mem_cons_of_mem _ (List.mem_append_left _ hb)
    · rw [OO x e] at hb; exact hb
  refine ⟨upd F i F1, m.master (Grows.refl w) rfl rfl rfl (fun x b hb => .inl ⟨x, hO x b hb⟩) (fun x => ?_) (fun x y hxy b hb hc => m.disj x y hxy b (hO x b hb) (hO y b hc)) (fun b _ _ => rfl)
    (fun i hi => ⟨hi, rfl⟩) (fun mo x nd hx => ?_)⟩
  · by_cases e : x = i
    · subst e
      have := m.nodup x
      rw [OH, eF] at this
      rw [OI]
      exact List.Sublist.nodup (List.Sublist.cons_cons _ (List.sublist_append_left F1 F2)) this
    · rw [OO x e]; exact m.nodup x
  · by_cases e : x = i
    · subst e
      rw [upd_same] at hx
      obtain rfl := Option.some.inj hx
      refine ⟨hUi, u1, fun j v hv => h1 j v (by
        rw [eu, List.getElem?_append_left (List.getElem?_eq_some_iff.1 hv).1]; exact hv), ?_, fun _ => (h3 hne).mono (by rw [eu, List.length_append]; omega), fun q => by cases q⟩
      rw [upd_same]
      exact mo.repF r1 (fun _ _ => rfl)
    · rw [upd_other _ _ e] at hx
      exact m.keep mo hx (by simp [upd_other _ _ e]) (fun _ _ => rfl)

end

theorem gh_shrink {n i : Nat} {σ : St} {c1 c2 : List Cell} (hi : σ.nd i = some (true, c1 ++ c2)) (hz : c1 ≠ []) : Gh n σ ⟨σ.t, setH σ.h i (some (true, c1))⟩ := by
  intro k L0 a w hrs
  obtain ⟨⟨L, F, U, m, ht, hU, hnn⟩, hlen, hdf⟩ := hrs
  obtain ⟨F', m', mo⟩ := m.shrink hi hz
  have e : (⟨σ.t, setH σ.h i (some (true, c1))⟩ : St).nd = upd σ.nd i (some (true, c1)) := ndOf_setH _ _ _
  rw [← e] at m' mo
  exact rs_of ht hnn hlen hdf m' mo rfl (fun j hj => by
    show j < (setH σ.h i _).length
    rw [setH_length]; have := hU j hj; omega)

theorem w_shr {n : Nat} {t h nx tn} (i : Nat) (c1 c2 : List Cell) {cs0 : List Cell} (hi : look none h i = some (true, cs0) := by rfl) (h1 : cs0 = c1 ++ c2) (hz : c1 ≠ []) : WGh n ⟨t, h, nx, tn⟩ ⟨t, (i, some (true, c1)) :: h, nx, tn⟩ := by
  subst h1
  refine w_of fun σ s => ⟨_, gh_shrink ((s.nd i).trans hi) hz, s.tv, fun x => look_setH s i _ x, ?_, s.tn⟩
  show (setH σ.h i _).length = nx
  rw [setH_length, s.nx]; have := nd_lt' s hi; simp at this ⊢; omega

/-- A table whose columns may be cut off. -/
def dfB (d : Df) : List Cell := if d.cols = [] then [s1 d.name, .sl false 0 3 [], slE true d.prim, slE true d.idx] else dfC true d

theorem dfB_y {d : Df} (h : 0 < d.cols.length) : dfB d = dfC true d := if_neg (fun e => by rw [e] at h; exact absurd h (by decide))

theorem dfB_n {d : Df} (h : d.cols = []) : dfB d = [s1 d.name, .sl false 0 3 [], slE true d.prim, slE true d.idx] := if_pos h

theorem sl_r0 {id off n s k : Nat} (h0 : k = 0) : sliceT (.ref id off n s) s 0 k = some (.sl false 0 s []) := by subst h0; simp [sliceT]

theorem sl_rk {id off n s k : Nat} (h : k ≤ n) (h0 : ¬ k = 0) : sliceT (.ref id off n s) s 0 k = some (.ref id (off + 0 * s) (k - 0) s) := by
  unfold sliceT
  rw [if_pos (Nat.zero_le _)]
  show (if k ≤ n ∧ s = s then _ else _) = _
  rw [if_pos ⟨h, rfl⟩, if_neg (fun e => h0 e.symm)]

theorem tkC {xs : List Cl} {k : Nat} : cs true xs = cs true (xs.take k) ++ cs true (xs.drop k) := by rw [← Enc.app, List.take_append_drop]

theorem zcl_eq {n : Nat} : zcl n = ⟨⟨#[122]⟩ ++ sb [UInt8.ofNat (48 + n)], 4, false⟩ := by
  unfold zcl
  rw [show (48 : UInt8) + UInt8.ofNat n = UInt8.ofNat (48 + n) from (UInt8.ofNat_add 48 n).symm]

theorem zcR_len : ∀ {f : Nat} {l : List Cl} {c : Cur}, l.length ≤ (zcR f l c).1.length
  | 0, _, _ => Nat.le_refl _
  | f + 1, l, c => by
    by_cases h : l.length < 6 + (blC c 2).1
    · rw [zcR_y h]
      have := zcR_len (f := f) (l := l ++ [zcl l.length]) (c := (blC c 2).2)
      rw [List.length_append, List.length_singleton] at this
      omega
    · rw [zcR_n h]; exact Nat.le_refl _

attribute [local irreducible] zcl zcR

set_option maxHeartbeats 2000000 in
set_option maxRecDepth 100000 in
theorem tx131 {n : Nat} (hn : n < 10 := by first | assumption | omega | (simp; done) | (simp; omega)) : T 131 [aI (n : Nat)] [vS (sb [UInt8.ofNat (48 + n)])] [none] := by
  refine w_call md [] Tryz.func131 rfl ?_
  repeat' ((conv => whnf); (first | refine Exists.intro _ (And.intro (u8n _) ?_) | refine Exists.intro _ (Exists.intro _ (Exists.intro _ (And.intro (srcO (α := UInt8) (xs := [UInt8.ofNat (48 + n)]) rfl rfl) (And.intro strOf_cs ?_)))) | refine k0 ?_ | refine jA fun _ => ?_ | refine jB fun _ => ?_ | refine kC (fun _ => ?_) fun _ => ?_ | refine jst ?_ | exact ⟨rfl, rfl⟩ | exact jV | fail))

theorem cx131 {P : Program} {X : FuncId → List Arg → List (Bool × List Cell) → List (Option (List Cell)) → Prop} {a : List Arg} {Q : List (Bool × List Cell) → List (Option (List Cell)) → Prop} (h : ∃ b vals outs, a = b ∧ D P X (.call 131 b vals outs) ∧ Q vals outs) : CallS P X 131 a Q := ⟨h⟩

attribute [local irreducible] anW dfB

set_option maxHeartbeats 2000000 in
set_option maxRecDepth 100000 in
theorem tx102 {c : Cur} (hc : CurOk c := by first | assumption | omega | (simp; done) | (simp; omega)) : T 102 [aC c] [(true, dfB (anF c).1)] [some (cuC (anF c).2)] := by
  refine w_call md [] Tryz.func102 rfl ?_
  have hcl := dcC_len (c := c)
  have hpl := dpC_len (c := c)
  have hpp : 1 ≤ (dpC c).1.length := pmC_pos
  have hxl := dxC_len (c := c)
  have kd0 := dfD_ok (name := ⟨#[116]⟩) hc
  have hD := tx73 (c := c) (name := ⟨#[116]⟩) hc
  unfold anF anK
  have hcl : 2 ≤ (dfD c ⟨#[116]⟩).1.cols.length ∧ (dfD c ⟨#[116]⟩).1.cols.length ≤ 5 := by unfold dfD; exact hcl
  have hpl : (dfD c ⟨#[116]⟩).1.prim.length ≤ 2 := by unfold dfD; exact hpl
  have hpp : 1 ≤ (dfD c ⟨#[116]⟩).1.prim.length := by unfold dfD; exact hpp
  have hxl : (dfD c ⟨#[116]⟩).1.idx.length ≤ 2 := by unfold dfD; exact hxl
  generalize dfD c ⟨#[116]⟩ = q at *
  obtain ⟨d, e⟩ := q
  simp only at hcl hpl hpp hxl kd0 hD ⊢
  obtain ⟨nm, cols, prim, idx⟩ := d
  simp only at hcl hpl hpp hxl hD ⊢
  have hD : T 73 [aC c, aS ⟨#[116]⟩] [(true, [s1 nm, slE true cols, slE true prim, slE true idx])] [some (cuC e), none] := hD
  have k1 := blC_ok (n := cols.length) kd0
  have hk := blC_lt (c := e) (n := cols.length) (by omega)
  obtain ⟨k, hk2⟩ : ∃ k, (blC e cols.length).1 = k := ⟨_, rfl⟩
  obtain ⟨e1, he1⟩ : ∃ e1, (blC e cols.length).2 = e1 := ⟨_, rfl⟩
  have hK : T 72 [aC e, aI (cols.length : Nat)] [vI (k : Nat)] [some (cuC e1), none] := by
    have h := tx72 (c := e) (n := cols.length) kd0 (by omega)
    rwa [hk2, he1] at h
  rw [he1] at k1
  rw [hk2] at hk
  rw [he1, hk2]
  have k2 := blC_ok (n := 16) k1
  obtain ⟨w, hw⟩ : ∃ w, (blC e1 16).1 = w := ⟨_, rfl⟩
  obtain ⟨e2, he2⟩ : ∃ e2, (blC e1 16).2 = e2 := ⟨_, rfl⟩
  have hW : T 72 [aC e1, aI (16 : Nat)] [vI (w : Nat)] [some (cuC e2), none] := by
    have h := tx72 (c := e1) (n := 16) k1 (by decide)
    rwa [hw, he2] at h
  rw [he2] at k2
  rw [he2, hw]
  clear hk2 he1 hw he2
  by_cases w0 : w = 0
  · subst w0
    rw [anW_0, dfB_y (by simp only; omega)]
    repeat' ((conv => whnf); (first | (apply cx73; refine kl (hD) ?_) | (apply cx72; refine kl (hK) ?_) | (apply cx72; refine kl (hW) ?_) | (apply cx106; refine kl (tx106 (c := e2) (l := naL)) ?_) | refine And.intro ⟨rfl, rfl, rfl⟩ ?_ | refine k0 ?_ | refine jA fun _ => ?_ | refine jB fun _ => ?_ | refine kC (fun _ => ?_) fun _ => ?_ | (apply cx107; refine kl tx107 ?_) | (apply cx131; refine kl tx131 ?_) | refine jst ?_ | exact ⟨rfl, rfl⟩ | exact jV | fail))
  by_cases w1 : w = 1
  · subst w1
    rw [anW_1 hk, dfB_y (by simp only [List.length_set]; omega)]
    repeat' ((conv => whnf); (first | (apply cx73; refine kl (hD) ?_) | (apply cx72; refine kl (hK) ?_) | (apply cx72; refine kl (hW) ?_) | (apply cx106; refine kl (tx106 (c := e2) (l := nbL)) ?_) | refine And.intro ⟨rfl, rfl, rfl⟩ ?_ | refine ko (ptFd (xs := cols) (i := k) (off := 0) (y := ⟨(sIC e2 nbL).1, cols[k].type, cols[k].null⟩) hk rfl) ?_ | refine k0 ?_ | refine jA fun _ => ?_ | refine jB fun _ => ?_ | refine kC (fun _ => ?_) fun _ => ?_ | (apply cx107; refine kl tx107 ?_) | (apply cx131; refine kl tx131 ?_) | refine jst ?_ | exact ⟨rfl, rfl⟩ | exact jV | fail))
    exact ⟨congrArg (fun m => [(true, [s1 nm, Cell.sl true m 3 (cs true (cols.set k ⟨(sIC e2 nbL).1, cols[k].type, cols[k].null⟩)), slE true prim, slE true idx])]) List.length_set.symm, rfl⟩
  by_cases w2 : w = 2
  · subst w2
    rw [anW_2 hk, dfB_y (by simp only [List.length_set]; omega)]
    repeat' ((conv => whnf); (first | (apply cx73; refine kl (hD) ?_) | (apply cx72; refine kl (hK) ?_) | (apply cx72; refine kl (hW) ?_) | (apply cx72; refine kl (tx72 (c := e2) (n := 6)) ?_) | refine ko (ptFd (xs := cols) (i := k) (off := 1) (y := ⟨cols[k].name, (blC e2 6).1, cols[k].null⟩) hk rfl) ?_ | refine k0 ?_ | refine jA fun _ => ?_ | refine jB fun _ => ?_ | refine kC (fun _ => ?_) fun _ => ?_ | (apply cx106; refine kl tx106 ?_) | (apply cx107; refine kl tx107 ?_) | (apply cx131; refine kl tx131 ?_) | refine jst ?_ | exact ⟨rfl, rfl⟩ | exact jV | fail))
    exact ⟨congrArg (fun m => [(true, [s1 nm, Cell.sl true m 3 (cs true (cols.set k ⟨cols[k].name, (blC e2 6).1, cols[k].null⟩)), slE true prim, slE true idx])]) List.length_set.symm, rfl⟩
  by_cases w3 : w = 3
  · subst w3
    rw [anW_3 hk, dfB_y (by simp only [List.length_set]; omega)]
    cases hnu : cols[k].null
    · repeat' ((conv => whnf); (first | (apply cx73; refine kl (hD) ?_) | (apply cx72; refine kl (hK) ?_) | (apply cx72; refine kl (hW) ?_) | refine ko ((ct (xs := cols) (i := k) (off := 2) (n := 1) hk (by decide)).trans (congrArg (fun b => some [b1 b]) hnu)) ?_ | refine ko (ptFd (xs := cols) (i := k) (off := 2) (y := ⟨cols[k].name, cols[k].type, true⟩) hk rfl) ?_ | refine k0 ?_ | refine jA fun _ => ?_ | refine jB fun _ => ?_ | refine kC (fun _ => ?_) fun _ => ?_ | (apply cx106; refine kl tx106 ?_) | (apply cx107; refine kl tx107 ?_) | (apply cx131; refine kl tx131 ?_) | refine jst ?_ | exact ⟨rfl, rfl⟩ | exact jV | fail))
      exact ⟨congrArg (fun m => [(true, [s1 nm, Cell.sl true m 3 (cs true (cols.set k ⟨cols[k].name, cols[k].type, true⟩)), slE true prim, slE true idx])]) List.length_set.symm, rfl⟩
    · repeat' ((conv => whnf); (first | (apply cx73; refine kl (hD) ?_) | (apply cx72; refine kl (hK) ?_) | (apply cx72; refine kl (hW) ?_) | refine ko ((ct (xs := cols) (i := k) (off := 2) (n := 1) hk (by decide)).trans (congrArg (fun b => some [b1 b]) hnu)) ?_ | refine ko (ptFd (xs := cols) (i := k) (off := 2) (y := ⟨cols[k].name, cols[k].type, false⟩) hk rfl) ?_ | refine k0 ?_ | refine jA fun _ => ?_ | refine jB fun _ => ?_ | refine kC (fun _ => ?_) fun _ => ?_ | (apply cx106; refine kl tx106 ?_) | (apply cx107; refine kl tx107 ?_) | (apply cx131; refine kl tx131 ?_) | refine jst ?_ | exact ⟨rfl, rfl⟩ | exact jV | fail))
      exact ⟨congrArg (fun m => [(true, [s1 nm, Cell.sl true m 3 (cs true (cols.set k ⟨cols[k].name, cols[k].type, false⟩)), slE true prim, slE true idx])]) List.length_set.symm, rfl⟩
  by_cases w4 : w = 4
  · subst w4
    rw [anW_4, dfB_y (by simp only; omega)]
    repeat' ((conv => whnf); (first | (apply cx73; refine kl (hD) ?_) | (apply cx72; refine kl (hK) ?_) | (apply cx72; refine kl (hW) ?_) | (apply cx107; refine kl (tx107 (c := e2) (n := cols.length + 1)) ?_) | refine k0 ?_ | refine jA fun _ => ?_ | refine jB fun _ => ?_ | refine kC (fun _ => ?_) fun _ => ?_ | (apply cx106; refine kl tx106 ?_) | (apply cx131; refine kl tx131 ?_) | refine jst ?_ | exact ⟨rfl, rfl⟩ | exact jV | fail))
  by_cases w5 : w = 5
  · subst w5
    have hp0 : 0 < prim.length := hpp
    rw [anW_5 hp0, dfB_y (by simp only; omega)]
    repeat' ((conv => whnf); (first | (apply cx73; refine kl (hD) ?_) | (apply cx72; refine kl (hK) ?_) | (apply cx72; refine kl (hW) ?_) | refine ko (jc (xs := prim) (i := 0) (h := hp0)) ?_ | refine jap (N := cs true ([prim[0]] : List By)) (apE (xs := prim) ?_) | refine k0 ?_ | refine jA fun _ => ?_ | refine jB fun _ => ?_ | refine kC (fun _ => ?_) fun _ => ?_ | (apply cx106; refine kl tx106 ?_) | (apply cx107; refine kl tx107 ?_) | (apply cx131; refine kl tx131 ?_) | refine jst ?_ | exact ⟨rfl, rfl⟩ | exact jV | fail))
  by_cases w6 : w = 6
  · subst w6
    rw [anW_6, dfB_y (by simp only; omega)]
    have s1' := sIC_ok (l := ncL) k2
    have hp2 := p2C_len (c := (sIC e2 ncL).2) (n := cols.length + 1)
    repeat' ((conv => whnf); (first | (apply cx73; refine kl (hD) ?_) | (apply cx72; refine kl (hK) ?_) | (apply cx72; refine kl (hW) ?_) | (apply cx106; refine kl (tx106 (c := e2) (l := ncL)) ?_) | (apply cx107; refine kl (tx107 (c := (sIC e2 ncL).2) (n := cols.length + 1)) ?_) | refine And.intro ⟨rfl, rfl, rfl⟩ ?_ | refine Exists.intro _ (Exists.intro _ (And.intro rfl (And.intro ⟨by simp <;> omega, bgb (by omega), bg (by omega)⟩ (apR (xs := idx) ?_)))) | refine bstep (w_inE 214 166 (cs true idx ++ [s1 (sIC e2 ncL).1, b1 false]) (p2C (sIC e2 ncL).2 (cols.length + 1)).1 [] (p2C (sIC e2 ncL).2 (cols.length + 1)).1.length 2 ix_app (h1 := by rw [List.append_nil, List.append_assoc]; rfl)) ?_ | refine k0 ?_ | refine jA fun _ => ?_ | refine jB fun _ => ?_ | refine kC (fun _ => ?_) fun _ => ?_ | (apply cx131; refine kl tx131 ?_) | refine jst ?_ | exact ⟨rfl, rfl⟩ | exact jV | fail))
    exact ⟨congrArg (fun m => [(true, [s1 nm, slE true cols, slE true prim, Cell.sl true m 3 (cs true (idx ++ [(⟨(sIC e2 ncL).1, false, (p2C (sIC e2 ncL).2 (cols.length + 1)).1⟩ : Ix)]))])]) len1, rfl⟩
  by_cases w7 : w = 7
  · subst w7
    rw [anW_7]
    have hv := blC_lt (c := e2) (n := 2) (by decide)
    obtain ⟨v, hv2⟩ : ∃ v, (blC e2 2).1 = v := ⟨_, rfl⟩
    have hV : T 72 [aC e2, aI (2 : Nat)] [vI (v : Nat)] [some (cuC (blC e2 2).2), none] := by
      have h := tx72 (c := e2) (n := 2) k2 (by decide)
      rwa [hv2] at h
    rw [hv2] at hv ⊢
    rcases (show v = 0 ∨ v = 1 by omega) with rfl | rfl
    · rw [dfB_n (by simp only [List.take_zero])]
      repeat' ((conv => whnf); (first | (apply cx73; refine kl (hD) ?_) | (apply cx72; refine kl (hK) ?_) | (apply cx72; refine kl (hW) ?_) | (apply cx72; refine kl (hV) ?_) | refine Exists.intro _ (Exists.intro _ (Exists.intro _ (And.intro rfl (And.intro bndN (And.intro (sl_r0 (k := 0) rfl) ?_))))) | refine k0 ?_ | refine jA fun _ => ?_ | refine jB fun _ => ?_ | refine kC (fun _ => ?_) fun _ => ?_ | (apply cx106; refine kl tx106 ?_) | (apply cx107; refine kl tx107 ?_) | (apply cx131; refine kl tx131 ?_) | refine jst ?_ | exact ⟨rfl, rfl⟩ | exact jV | fail))
    · have ht1 : (cols.take 1).length = 1 := by rw [List.length_take]; omega
      rw [dfB_y (by simp only [ht1]; omega)]
      repeat' ((conv => whnf); (first | (apply cx73; refine kl (hD) ?_) | (apply cx72; refine kl (hK) ?_) | (apply cx72; refine kl (hW) ?_) | (apply cx72; refine kl (hV) ?_) | refine bstep (w_shr 2 (cs true (cols.take 1)) (cs true (cols.drop 1)) (h1 := tkC) (hz := fun e => by have := congrArg List.length e; rw [cs_len, ht1] at this; exact absurd (show (3 : Nat) = 0 from this) (by decide))) ?_ | refine Exists.intro _ (Exists.intro _ (Exists.intro _ (And.intro rfl (And.intro bndN (And.intro (sl_rk (k := 1) (by omega) (by decide)) ?_))))) | refine And.intro ⟨rfl, by rw [cs_len, ht1], by decide, cs_shal _⟩ ?_ | refine k0 ?_ | refine jA fun _ => ?_ | refine jB fun _ => ?_ | refine kC (fun _ => ?_) fun _ => ?_ | (apply cx106; refine kl tx106 ?_) | (apply cx107; refine kl tx107 ?_) | (apply cx131; refine kl tx131 ?_) | refine jst ?_ | exact ⟨rfl, rfl⟩ | exact jV | fail))
      exact ⟨congrArg (fun m => [(true, [s1 nm, Cell.sl true m 3 (cs true (cols.take 1)), slE true prim, slE true idx])]) ht1.symm, rfl⟩
  by_cases w8 : w = 8
  · subst w8
    rw [anW_8]
    have hzl := zcR_len (f := 6) (l := cols) (c := e2)
    rw [dfB_y (by simp only; omega)]
    generalize hfin : zcR 6 cols e2 = fin
    repeat' ((conv => whnf); (first | (apply cx73; refine kl (hD) ?_) | (apply cx72; refine kl (hK) ?_) | (apply cx72; refine kl (hW) ?_) | refine k0 ?_ | refine jA fun _ => ?_ | refine jB fun _ => ?_ | refine kC (fun _ => ?_) fun _ => ?_ | (apply cx106; refine kl tx106 ?_) | (apply cx107; refine kl tx107 ?_) | (apply cx131; refine kl tx131 ?_) | refine jst ?_ | exact ⟨rfl, rfl⟩ | exact jV | fail))
    conv => whnf
    refine loopk (ι := List Cl × Cur) (fun i => (∃ f, 8 ≤ f + i.1.length ∧ zcR f i.1 i.2 = fin) ∧ i.1.length ≤ 7 ∧ CurOk i.2) (fun i => 8 - i.1.length) ((cols, e2)) [0, 2, 3] (fun i => []) [some fun i => some (true, cuC i.2), none, some fun i => nE i.1, none, none, some fun i => some (true, [s1 nm, .ref 2 0 i.1.length 3, .ref 3 0 prim.length 2, .ref 4 0 idx.length 3])] ?_
    refine ⟨⟨⟨6, by simp only; omega, hfin⟩, by simp only; omega, k2⟩, ?_, fun i hi => ?_⟩
    · exact jw [5]
    · obtain ⟨l, e⟩ := i
      obtain ⟨⟨f, hf, hz⟩, hl7, he⟩ := hi
      simp only at hf hz hl7 he
      have hb2 := blC_lt (c := e) (n := 2) (by decide)
      have he2 := blC_ok (n := 2) he
      have hsn : (l, e).1.length = l.length := rfl
      obtain ⟨g, rfl⟩ : ∃ g, f = g + 1 := ⟨f - 1, by omega⟩
      have hss : (⟨#[122]⟩ : ByteArray).size + (sb [UInt8.ofNat (48 + l.length)]).size ≤ 9223372036854775807 := by
        rw [sb_len]; show 1 + 1 ≤ 9223372036854775807; decide
      by_cases hlt : l.length < 6 + (blC e 2).1
      · rw [zcR_y hlt, zcl_eq] at hz
        repeat' ((conv => whnf); (first | (apply cx72; refine kl (tx72 (c := e) (n := 2)) ?_) | (apply cx131; refine kl (tx131 (n := l.length)) ?_) | refine And.intro hss ?_ | refine jap (N := cs true ([⟨⟨#[122]⟩ ++ sb [UInt8.ofNat (48 + l.length)], 4, false⟩] : List Cl)) (apE (xs := l) ?_) | refine k0 ?_ | refine jA fun _ => ?_ | refine jB fun _ => ?_ | refine kC (fun _ => ?_) fun _ => ?_ | (apply cx73; refine kl tx73 ?_) | (apply cx106; refine kl tx106 ?_) | (apply cx107; refine kl tx107 ?_) | refine jst ?_ | exact ⟨rfl, rfl⟩ | exact jV | fail))
        refine ⟨⟨(l ++ [⟨⟨#[122]⟩ ++ sb [UInt8.ofNat (48 + l.length)], 4, false⟩], (blC e 2).2), ⟨⟨g, by rw [List.length_append, List.length_singleton]; omega, hz⟩, by rw [List.length_append, List.length_singleton]; omega, he2⟩⟩, by rw [List.length_append, List.length_singleton]; omega, ?_⟩
        exact w_autoX [5] (by (conv => whnf); exact And.intro (by kernel_rfl) (And.intro (by kernel_rfl) (by repeat' (first | (with_reducible exact rfl) | ((conv => whnf); first | exact trivial | exact (by rw [← len1]; exact ⟨rfl, rfl⟩) | exact (by rw [← len1]; rfl) | exact rfl | exact tvi (by first | omega | (dsimp only; omega) | (simp; done)) | exact tvr (by first | omega | (dsimp only; omega) | (simp; done) | (simp; omega)) | exact ⟨rfl, clo_i, by first | rfl | rw [List.take_length] | assumption⟩ | refine And.intro ?_ ?_)))))
      · rw [zcR_n hlt] at hz
        subst hz
        repeat' ((conv => whnf); (first | (apply cx72; refine kl (tx72 (c := e) (n := 2)) ?_) | refine k0 ?_ | refine jA fun _ => ?_ | refine jB fun _ => ?_ | refine kC (fun _ => ?_) fun _ => ?_ | (apply cx73; refine kl tx73 ?_) | (apply cx106; refine kl tx106 ?_) | (apply cx107; refine kl tx107 ?_) | (apply cx131; refine kl tx131 ?_) | refine jst ?_ | exact ⟨rfl, rfl⟩ | exact jV | fail))
  rw [anW_9 w0 w1 w2 w3 w4 w5 w6 w7 w8, dfB_y (by simp only; omega)]
  repeat' ((conv => whnf); (first | (apply cx73; refine kl (hD) ?_) | (apply cx72; refine kl (hK) ?_) | (apply cx72; refine kl (hW) ?_) | refine k0 ?_ | refine jA fun _ => ?_ | refine jB fun _ => ?_ | refine kC (fun _ => ?_) fun _ => ?_ | (apply cx106; refine kl tx106 ?_) | (apply cx107; refine kl tx107 ?_) | (apply cx131; refine kl tx131 ?_) | refine jst ?_ | exact ⟨rfl, rfl⟩ | exact jV | fail))

theorem cx102 {P : Program} {X : FuncId → List Arg → List (Bool × List Cell) → List (Option (List Cell)) → Prop} {a : List Arg} {Q : List (Bool × List Cell) → List (Option (List Cell)) → Prop} (h : ∃ b vals outs, a = b ∧ D P X (.call 102 b vals outs) ∧ Q vals outs) : CallS P X 102 a Q := ⟨h⟩
end

section
open Go Go.RowKit Go.IntWalk

open Enc (sz cs)

attribute [local irreducible] IntKind.wrap

/-! ### Tables, bent or not -/

attribute [local irreducible] blC inC sIC byC csR p2C dfD anF ldC dfB

theorem laC_0 {c c1 : Cur} {l : List Df} (h1 : ldC c = (l, c1)) (h : (blC c1 8).1 = 0) : laC c = (l ++ [(anF (blC c1 8).2).1], (anF (blC c1 8).2).2) := by
  unfold laC
  rw [h1]
  exact if_pos h

theorem laC_1 {c c1 : Cur} {l : List Df} (h1 : ldC c = (l, c1)) (h : (blC c1 8).1 = 1) : laC c = (l ++ [(dfD (blC c1 8).2 ⟨#[118]⟩).1, (dfD (dfD (blC c1 8).2 ⟨#[118]⟩).2 ⟨#[119]⟩).1], (dfD (dfD (blC c1 8).2 ⟨#[118]⟩).2 ⟨#[119]⟩).2) := by
  unfold laC
  rw [h1]
  simp only
  rw [if_neg (by omega), if_pos h]

theorem laC_2 {c c1 : Cur} {l : List Df} (h1 : ldC c = (l, c1)) (h0 : ¬ (blC c1 8).1 = 0) (h : ¬ (blC c1 8).1 = 1) : laC c = (l, (blC c1 8).2) := by
  unfold laC
  rw [h1]
  simp only
  rw [if_neg h0, if_neg h]

theorem df_app {l : List Df} {d : Df} : cs true l ++ [s1 d.name, slE true d.cols, slE true d.prim] ++ [slE true d.idx] ++ [] = cs true (l ++ [d]) := by
  rw [Enc.app, List.append_nil, List.append_assoc]; rfl

theorem df_ap2 {l : List Df} {a b : Df} : cs true l ++ [s1 a.name, slE true a.cols, slE true a.prim, slE true a.idx, s1 b.name, slE true b.cols, slE true b.prim] ++ [slE true b.idx] ++ [] = cs true (l ++ [a, b]) := by
  rw [Enc.app, List.append_nil, List.append_assoc]; rfl

theorem df_ap0 {l : List Df} {d : Df} (h : d.cols = []) : roifyL (cs true l ++ [s1 d.name, .sl false 0 3 [], slE true d.prim] ++ [slE true d.idx] ++ []) = cs false (l ++ [d]) := by
  rw [Enc.app, List.append_nil, List.append_assoc, roifyL_append, cs_ro]
  have e : cs false [d] = [s1 d.name, slE false d.cols, slE false d.prim, slE false d.idx] := rfl
  rw [e, h]
  show cs false l ++ [s1 d.name, .sl false 0 3 [], .sl false d.prim.length 2 (roifyL (cs true d.prim)), .sl false d.idx.length 3 (roifyL (cs true d.idx))] = _
  rw [cs_ro, cs_ro]; rfl

theorem snl {α : Type} [Enc α] {ys : List α} {n s : Nat} (h : n = ys.length) (hs : sz α = s := by rfl) : 0 + n * s ≤ (cs false ys).length ∧ (((cs false ys).drop 0).take (n * s)).all Cell.shal = true := by
  subst h hs
  exact ⟨by rw [cs_len]; omega, by rw [cs_whole]; exact cs_shal _⟩

theorem csl {α : Type} [Enc α] {ys : List α} {n s : Nat} (h : n = ys.length) (hs : sz α = s := by rfl) : ((cs false ys).drop 0).take (n * s) = cs false ys := by
  subst h hs; exact cs_whole

attribute [local irreducible] laC

set_option maxHeartbeats 2000000 in
set_option maxRecDepth 100000 in
theorem tx65 {c : Cur} (hc : CurOk c := by first | assumption | omega | (simp; done) | (simp; omega)) : T 65 [aC c] [(false, [slE false (laC c).1])] [some (cuC (laC c).2)] := by
  refine w_call md [] Tryz.func65 rfl ?_
  have hb := ldC_b (c := c)
  have k1 := ldC_ok hc
  have hD := tx35 (c := c) hc
  obtain ⟨l, c1, h1⟩ : ∃ l c1, ldC c = (l, c1) := ⟨_, _, rfl⟩
  rw [h1] at hb k1 hD
  have hll : l.length ≤ 2 := hb.2
  have k1 : CurOk c1 := k1
  have hD : T 35 [aC c] [vE l] [some (cuC c1)] := hD
  have k2 := blC_ok (n := 8) k1
  obtain ⟨w, hw⟩ : ∃ w, (blC c1 8).1 = w := ⟨_, rfl⟩
  have hW : T 72 [aC c1, aI (8 : Nat)] [vI (w : Nat)] [some (cuC (blC c1 8).2), none] := by
    have h := tx72 (c := c1) (n := 8) k1 (by decide)
    rwa [hw] at h
  by_cases w0 : w = 0
  · rw [laC_0 h1 (hw.trans w0)]
    subst w0
    have hA := tx102 (c := (blC c1 8).2) k2
    generalize anF (blC c1 8).2 = q at *
    obtain ⟨d, e⟩ := q
    simp only at hA ⊢
    by_cases hd : d.cols = []
    · rw [dfB_n hd] at hA
      repeat' ((conv => whnf); (first | (apply cx35; refine kl (hD) ?_) | (apply cx72; refine kl (hW) ?_) | (apply cx102; refine kl (hA) ?_) | refine Exists.intro _ (Exists.intro _ (And.intro rfl (And.intro ⟨by simp <;> omega, bgb (by omega), bg (by omega)⟩ (apR (xs := l) ?_)))) | refine bstep ((w_inE 5 2 (cs true l ++ [s1 d.name, .sl false 0 3 []]) d.prim [.ref 3 0 d.idx.length 3] d.prim.length 2 rfl (h1 := by rw [List.append_assoc, List.append_assoc]; rfl)).trans ((w_inE 5 3 (cs true l ++ [s1 d.name, .sl false 0 3 [], slE true d.prim]) d.idx [] d.idx.length 3 rfl).trans (w_freeze 5 rfl (df_ap0 hd)))) ?_ | refine ⟨snl (by simp), cs false (l ++ [d]), csl (by simp), ?_⟩ | refine k0 ?_ | refine jA fun _ => ?_ | refine jB fun _ => ?_ | refine kC (fun _ => ?_) fun _ => ?_ | (apply cx73; refine kl tx73 ?_) | refine jst ?_ | exact ⟨rfl, rfl⟩ | exact jV | fail))
      exact ⟨congrArg (fun m => [(false, [Cell.sl false m 4 (cs false (l ++ [d]))])]) (by simp), rfl⟩
    · rw [dfB_y (List.length_pos_iff.2 hd)] at hA
      repeat' ((conv => whnf); (first | (apply cx35; refine kl (hD) ?_) | (apply cx72; refine kl (hW) ?_) | (apply cx102; refine kl (hA) ?_) | refine Exists.intro _ (Exists.intro _ (And.intro rfl (And.intro ⟨by simp <;> omega, bgb (by omega), bg (by omega)⟩ (apR (xs := l) ?_)))) | refine bstep ((w_inE 6 2 (cs true l ++ [s1 d.name]) d.cols [.ref 3 0 d.prim.length 2, .ref 4 0 d.idx.length 3] d.cols.length 3 rfl (h1 := by rw [List.append_assoc, List.append_assoc]; rfl)).trans ((w_inE 6 3 (cs true l ++ [s1 d.name, slE true d.cols]) d.prim [.ref 4 0 d.idx.length 3] d.prim.length 2 rfl).trans ((w_inE 6 4 (cs true l ++ [s1 d.name, slE true d.cols, slE true d.prim]) d.idx [] d.idx.length 3 df_app).trans (w_frz 6 (l ++ [d]))))) ?_ | refine ⟨snl (by simp), cs false (l ++ [d]), csl (by simp), ?_⟩ | refine k0 ?_ | refine jA fun _ => ?_ | refine jB fun _ => ?_ | refine kC (fun _ => ?_) fun _ => ?_ | (apply cx73; refine kl tx73 ?_) | refine jst ?_ | exact ⟨rfl, rfl⟩ | exact jV | fail))
      exact ⟨congrArg (fun m => [(false, [Cell.sl false m 4 (cs false (l ++ [d]))])]) (by simp), rfl⟩
  by_cases w1 : w = 1
  · rw [laC_1 h1 (hw.trans w1)]
    subst w1
    have hA := tx73 (c := (blC c1 8).2) (name := ⟨#[118]⟩) k2
    have ka := dfD_ok (name := ⟨#[118]⟩) k2
    generalize dfD (blC c1 8).2 ⟨#[118]⟩ = q at *
    obtain ⟨a, e⟩ := q
    have hB := tx73 (c := e) (name := ⟨#[119]⟩) ka
    simp only at hA ⊢
    generalize dfD e ⟨#[119]⟩ = q at *
    obtain ⟨b, u⟩ := q
    simp only at hB ⊢
    repeat' ((conv => whnf); (first | (apply cx35; refine kl (hD) ?_) | (apply cx72; refine kl (hW) ?_) | (apply cx73; refine kl (hA) ?_) | (apply cx73; refine kl (hB) ?_) | refine Exists.intro _ (Exists.intro _ (And.intro rfl (And.intro ⟨by simp <;> omega, bgb (by omega), bg (by omega)⟩ (apR (xs := l) ?_)))) | refine bstep ((w_inE 9 2 (cs true l ++ [s1 a.name]) a.cols [.ref 3 0 a.prim.length 2, .ref 4 0 a.idx.length 3, s1 b.name, .ref 5 0 b.cols.length 3, .ref 6 0 b.prim.length 2, .ref 7 0 b.idx.length 3] a.cols.length 3 rfl (h1 := by rw [List.append_assoc, List.append_assoc]; rfl)).trans ((w_inE 9 3 (cs true l ++ [s1 a.name, slE true a.cols]) a.prim [.ref 4 0 a.idx.length 3, s1 b.name, .ref 5 0 b.cols.length 3, .ref 6 0 b.prim.length 2, .ref 7 0 b.idx.length 3] a.prim.length 2 rfl).trans ((w_inE 9 4 (cs true l ++ [s1 a.name, slE true a.cols, slE true a.prim]) a.idx [s1 b.name, .ref 5 0 b.cols.length 3, .ref 6 0 b.prim.length 2, .ref 7 0 b.idx.length 3] a.idx.length 3 rfl).trans ((w_inE 9 5 (cs true l ++ [s1 a.name, slE true a.cols, slE true a.prim, slE true a.idx, s1 b.name]) b.cols [.ref 6 0 b.prim.length 2, .ref 7 0 b.idx.length 3] b.cols.length 3 rfl).trans ((w_inE 9 6 (cs true l ++ [s1 a.name, slE true a.cols, slE true a.prim, slE true a.idx, s1 b.name, slE true b.cols]) b.prim [.ref 7 0 b.idx.length 3] b.prim.length 2 rfl).trans ((w_inE 9 7 (cs true l ++ [s1 a.name, slE true a.cols, slE true a.prim, slE true a.idx, s1 b.name, slE true b.cols, slE true b.prim]) b.idx [] b.idx.length 3 df_ap2).trans (w_frz 9 (l ++ [a, b])))))))) ?_ | refine ⟨snl (by simp), cs false (l ++ [a, b]), csl (by simp), ?_⟩ | refine k0 ?_ | refine jA fun _ => ?_ | refine jB fun _ => ?_ | refine kC (fun _ => ?_) fun _ => ?_ | (apply cx102; refine kl tx102 ?_) | refine jst ?_ | exact ⟨rfl, rfl⟩ | exact jV | fail))
    exact ⟨congrArg (fun m => [(false, [Cell.sl false m 4 (cs false (l ++ [a, b]))])]) (by simp), rfl⟩
  · rw [laC_2 h1 (by omega) (by omega)]
    repeat' ((conv => whnf); (first | (apply cx35; refine kl (hD) ?_) | (apply cx72; refine kl (hW) ?_) | refine bstep (w_frz 1 (l)) ?_ | refine ⟨snc, cs false l, cs_whole, ?_⟩ | refine k0 ?_ | refine jA fun _ => ?_ | refine jB fun _ => ?_ | refine kC (fun _ => ?_) fun _ => ?_ | (apply cx102; refine kl tx102 ?_) | (apply cx73; refine kl tx73 ?_) | refine jst ?_ | exact ⟨rfl, rfl⟩ | exact jV | fail))

theorem cx65 {P : Program} {X : FuncId → List Arg → List (Bool × List Cell) → List (Option (List Cell)) → Prop} {a : List Arg} {Q : List (Bool × List Cell) → List (Option (List Cell)) → Prop} (h : ∃ b vals outs, a = b ∧ D P X (.call 65 b vals outs) ∧ Q vals outs) : CallS P X 65 a Q := ⟨h⟩

set_option maxHeartbeats 2000000 in
set_option maxRecDepth 100000 in
theorem tx63 {c : Cur} (hc : CurOk c := by first | assumption | omega | (simp; done) | (simp; omega)) : T 63 [aC c] [(false, [slE false (dsC c).1])] [some (cuC (dsC c).2)] := by
  refine w_call md [] Tryz.func63 rfl ?_
  have k1 := blC_ok (n := 12) hc
  cases h : (onC c 12).1
  · have hO := onT h hc (by decide)
    have e : dsC c = ldC (blC c 12).2 := by unfold dsC; exact if_neg (by rw [h]; decide)
    rw [e]
    repeat' ((conv => whnf); (first | (apply cx71; refine kl (hO) ?_) | (apply cx35; refine kl (tx35 (c := (blC c 12).2)) ?_) | refine bstep (w_frz 1 ((ldC (blC c 12).2).1)) ?_ | refine ⟨snc, cs false (ldC (blC c 12).2).1, cs_whole, ?_⟩ | refine k0 ?_ | refine jA fun _ => ?_ | refine jB fun _ => ?_ | refine kC (fun _ => ?_) fun _ => ?_ | (apply cx65; refine kl tx65 ?_) | refine jst ?_ | exact ⟨rfl, rfl⟩ | exact jV | fail))
  · have hO := onT h hc (by decide)
    have e : dsC c = laC (blC c 12).2 := by unfold dsC; exact if_pos h
    rw [e]
    repeat' ((conv => whnf); (first | (apply cx71; refine kl (hO) ?_) | (apply cx65; refine kl (tx65 (c := (blC c 12).2)) ?_) | refine k0 ?_ | refine jA fun _ => ?_ | refine jB fun _ => ?_ | refine kC (fun _ => ?_) fun _ => ?_ | (apply cx35; refine kl tx35 ?_) | refine jst ?_ | exact ⟨rfl, rfl⟩ | exact jV | fail))

theorem cx63 {P : Program} {X : FuncId → List Arg → List (Bool × List Cell) → List (Option (List Cell)) → Prop} {a : List Arg} {Q : List (Bool × List Cell) → List (Option (List Cell)) → Prop} (h : ∃ b vals outs, a = b ∧ D P X (.call 63 b vals outs) ∧ Q vals outs) : CallS P X 63 a Q := ⟨h⟩
end

end Go.Proofs.YtddikflnjloagaaGreatDoor
