/- What is to be shown of one operation, so that it does what is asked. -/
import Derived.Test.YtacfohamlkbpjaaTy
namespace Go.Proofs.Ytacfohamlkbpjaa
open Go Go.RowKit

/-- A value, told by its form. -/
def fv (v : TV) (K : TV → Prop) : Prop :=
  match v with
  | .v b l => K (.v b l)
  | .tup l => K (.tup l)
  | .undef => K .undef

/-- Cells, told one by one. -/
def fl : List Cell → (List Cell → Prop) → Prop
  | [], K => K []
  | c :: l, K => match c with
    | .prim v => fl l fun r => K (.prim v :: r)
    | .nil => fl l fun r => K (.nil :: r)
    | .sl o n s x => fl l fun r => K (.sl o n s x :: r)
    | .ref id off n s => fl l fun r => K (.ref id off n s :: r)
    | .ptr id off => fl l fun r => K (.ptr id off :: r)
    | .rop x => fl l fun r => K (.rop x :: r)
    | .dead => fl l fun r => K (.dead :: r)

theorem fl_ok : ∀ {l : List Cell} {K : List Cell → Prop}, fl l K → K l
  | [], _, h => h
  | c :: l, K, h => by
    unfold fl at h
    cases c <;> exact fl_ok (l := l) h

theorem fv_ok {v : TV} {K : TV → Prop} (h : fv v K) : K v := by cases v <;> exact h

/-- `s` cells from `off` on. -/
def cut : List Cell → Nat → Nat → Option (List Cell)
  | _, _, 0 => some []
  | [], _, _ + 1 => none
  | c :: l, 0, s + 1 => (cut l 0 s).map (c :: ·)
  | _ :: l, off + 1, s + 1 => cut l off (s + 1)

theorem cut_some : ∀ {l : List Cell} {off s : Nat} {r : List Cell}, cut l off s = some r → s = 0 ∧ r = [] ∨ (off + s ≤ l.length ∧ (l.drop off).take s = r)
  | l, _, 0, r, h => by left; cases l <;> simp [cut] at h <;> simp [h]
  | [], _, _ + 1, _, h => by simp [cut] at h
  | c :: l, 0, s + 1, r, h => by
    right
    obtain ⟨r', h1, rfl⟩ := Option.map_eq_some_iff.1 h
    rcases cut_some h1 with ⟨rfl, rfl⟩ | ⟨g1, g2⟩
    · simp
    · exact ⟨by simp; omega, by simpa using g2⟩
  | _ :: l, off + 1, s + 1, r, h => by
    right
    rcases cut_some (l := l) (off := off) (s := s + 1) h with ⟨e, _⟩ | ⟨g1, g2⟩
    · cases e
    · exact ⟨by simp; omega, by simpa using g2⟩

/-- Cells put in place of others. -/
def put : List Cell → Nat → List Cell → Option (List Cell)
  | l, 0, [] => some l
  | [], _, _ => none
  | _ :: l, 0, x :: xs => (put l 0 xs).map (x :: ·)
  | c :: l, off + 1, xs => (put l off xs).map (c :: ·)

theorem put_some : ∀ {l : List Cell} {off : Nat} {x r : List Cell}, put l off x = some r → off + x.length ≤ l.length ∧ putAt l off x = r
  | l, 0, [], r, h => by
    have : some l = some r := by cases l <;> exact h
    obtain rfl := Option.some.inj this
    simp [putAt]
  | [], 0, _ :: _, _, h => by simp [put] at h
  | [], _ + 1, _, _, h => by simp [put] at h
  | c :: l, 0, x :: xs, r, h => by
    obtain ⟨r', h1, rfl⟩ := Option.map_eq_some_iff.1 h
    obtain ⟨g1, g2⟩ := put_some h1
    refine ⟨by simp at g1 ⊢; omega, ?_⟩
    rw [← g2]; simp [putAt]
  | c :: l, off + 1, xs, r, h => by
    obtain ⟨r', h1, rfl⟩ := Option.map_eq_some_iff.1 h
    obtain ⟨g1, g2⟩ := put_some h1
    refine ⟨by simp; omega, ?_⟩
    rw [← g2]
    simp [putAt, Nat.add_right_comm off 1 xs.length]

def noOwn (l : List Cell) : Bool := l.all fun c => !c.own?

abbrev KT := TV → Upds → Prop

def cmpW (k : Value → Prop) (p : Prop) : Prop := (p → k (.bool true)) ∧ (¬ p → k (.bool false))

def intW (op : BinOp) (k : IntKind) (a b : Int) (K : Value → Prop) : Prop :=
  match op with
  | .add => ∃ c, k.wrap (a + b) = c ∧ K (.int k c)
  | .sub => ∃ c, k.wrap (a - b) = c ∧ K (.int k c)
  | .mul => ∃ c, k.wrap (a * b) = c ∧ K (.int k c)
  | .quo => b ≠ 0 ∧ ∃ c, k.wrap (a.tdiv b) = c ∧ K (.int k c)
  | .rem => b ≠ 0 ∧ ∃ c, a.tmod b = c ∧ K (.int k c)
  | .eql => cmpW K (a = b)
  | .neq => cmpW K (a ≠ b)
  | .lss => cmpW K (a < b)
  | .leq => cmpW K (a ≤ b)
  | .gtr => cmpW K (a > b)
  | .geq => cmpW K (a ≥ b)
  | .and => ∃ c, k.wrap (BitVec.ofInt k.bits a &&& BitVec.ofInt k.bits b).toNat = c ∧ K (.int k c)
  | .or => ∃ c, k.wrap (BitVec.ofInt k.bits a ||| BitVec.ofInt k.bits b).toNat = c ∧ K (.int k c)
  | .xor => ∃ c, k.wrap (BitVec.ofInt k.bits a ^^^ BitVec.ofInt k.bits b).toNat = c ∧ K (.int k c)
  | _ => False

def strW (op : BinOp) (x y : ByteArray) (K : Value → Prop) : Prop :=
  match op with
  | .add => x.size + y.size ≤ 9223372036854775807 ∧ K (.string (x ++ y))
  | .eql => cmpW K (x.toList = y.toList)
  | .neq => cmpW K (x.toList ≠ y.toList)
  | .lss => cmpW K (Op.bytesLess x.toList y.toList = true)
  | .leq => cmpW K ((Op.bytesLess x.toList y.toList || x.toList == y.toList) = true)
  | .gtr => cmpW K ((!(Op.bytesLess x.toList y.toList || x.toList == y.toList)) = true)
  | .geq => cmpW K ((!Op.bytesLess x.toList y.toList) = true)
  | _ => False

def binW (P : Program) (op : BinOp) (t : TypeId) (x y : Value) (K : Value → Prop) : Prop :=
  match x, y with
  | .int k a, .int k' b => match op with
    | .shl => 0 ≤ b ∧ ∃ c, k.wrap (a * 2 ^ (min b.toNat k.bits)) = c ∧ K (.int k c)
    | .shr => 0 ≤ b ∧ ∃ c, a.fdiv (2 ^ (min b.toNat k.bits)) = c ∧ K (.int k c)
    | op => match decide (k = k') with
      | true => intW op k a b K
      | false => False
  | .string a, .string b => strW op a b K
  | .bool a, .bool b => match P.underlying t with
    | some .bool => match op with
      | .eql => K (.bool (a == b))
      | .neq => K (.bool !(a == b))
      | _ => False
    | _ => False
  | _, _ => False

theorem cmpW_ok {K : Value → Prop} {p : Prop} {b : Bool} (hb : b = true ↔ p) (h : cmpW K p) : K (.bool b) := by
  cases b with
  | true => exact h.1 (hb.1 rfl)
  | false => exact h.2 fun hp => by have := hb.2 hp; cases this

theorem intW_ok {op : BinOp} {k : IntKind} {a b : Int} {K : Value → Prop} (h : intW op k a b K) : ∃ r, intT op k a b = some r ∧ K r := by
  unfold intW at h
  unfold intT
  cases op <;> simp only at h ⊢ <;> try (exact h.elim)
  case add => obtain ⟨c, rfl, h⟩ := h; exact ⟨_, rfl, h⟩
  case sub => obtain ⟨c, rfl, h⟩ := h; exact ⟨_, rfl, h⟩
  case mul => obtain ⟨c, rfl, h⟩ := h; exact ⟨_, rfl, h⟩
  case quo => obtain ⟨hb, c, rfl, h⟩ := h; rw [if_neg hb]; exact ⟨_, rfl, h⟩
  case rem => obtain ⟨hb, c, rfl, h⟩ := h; rw [if_neg hb]; exact ⟨_, rfl, h⟩
  case eql => exact ⟨_, rfl, cmpW_ok (by simp) h⟩
  case neq => exact ⟨_, rfl, cmpW_ok (by simp) h⟩
  case lss => exact ⟨_, rfl, cmpW_ok (by simp) h⟩
  case leq => exact ⟨_, rfl, cmpW_ok (by simp) h⟩
  case gtr => exact ⟨_, rfl, cmpW_ok (by simp) h⟩
  case geq => exact ⟨_, rfl, cmpW_ok (by simp) h⟩
  case and => obtain ⟨c, rfl, h⟩ := h; exact ⟨_, rfl, h⟩
  case or => obtain ⟨c, rfl, h⟩ := h; exact ⟨_, rfl, h⟩
  case xor => obtain ⟨c, rfl, h⟩ := h; exact ⟨_, rfl, h⟩

theorem strW_ok {op : BinOp} {x y : ByteArray} {K : Value → Prop} (h : strW op x y K) : ∃ r, strT op x y = some r ∧ K r := by
  unfold strW at h
  unfold strT
  cases op <;> simp only at h ⊢ <;> try (exact h.elim)
  case add => rw [if_pos h.1]; exact ⟨_, rfl, h.2⟩
  case eql => exact ⟨_, rfl, cmpW_ok (by simp) h⟩
  case neq => exact ⟨_, rfl, cmpW_ok (by simp) h⟩
  case lss => exact ⟨_, rfl, cmpW_ok Iff.rfl h⟩
  case leq => exact ⟨_, rfl, cmpW_ok Iff.rfl h⟩
  case gtr => exact ⟨_, rfl, cmpW_ok Iff.rfl h⟩
  case geq => exact ⟨_, rfl, cmpW_ok Iff.rfl h⟩

theorem binW_ok {P : Program} {op : BinOp} {t : TypeId} {x y : Value} {K : Value → Prop} (h : binW P op t x y K) : ∃ r, binT P op t x y = some r ∧ K r := by
  unfold binW at h
  split at h
  · rename_i k a k' b
    split at h
    · obtain ⟨hb, c, rfl, h⟩ := h
      simp only [binT]; rw [if_neg (by omega)]; exact ⟨_, rfl, h⟩
    · obtain ⟨hb, c, rfl, h⟩ := h
      simp only [binT]; rw [if_neg (by omega)]; exact ⟨_, rfl, h⟩
    · rename_i op h1 h2
      split at h
      · rename_i e
        have hk : k = k' := of_decide_eq_true e
        obtain ⟨r, h3, h4⟩ := intW_ok h
        refine ⟨r, ?_, h4⟩
        rw [← h3]
        cases op <;> first | exact absurd rfl h1 | exact absurd rfl h2 | (simp [binT, hk])
      · exact h.elim
  · obtain ⟨r, h3, h4⟩ := strW_ok h
    refine ⟨r, ?_, h4⟩
    rw [← h3]
    cases op <;> rfl
  · split at h
    · rename_i hu
      split at h
      · exact ⟨_, by simp [binT, hu], h⟩
      · exact ⟨_, by simp [binT, hu], h⟩
      · exact h.elim
    · exact h.elim
  · exact h.elim

/-- A value that comes into an operation, with its cells told one by one. -/
def argW (ev : Operand → TV) (x : Operand) (K : Bool → List Cell → Prop) : Prop :=
  match ev x with
  | .v b l => K b l
  | _ => False

def fillW (place : Nat → Option (Nat × Nat)) : List Cell → List (Nat × TV) → (List Cell → Prop) → Prop
  | cs, [], K => fl cs K
  | cs, (i, .v _ l) :: r, K => match place i with
    | some (off, size) => match decide (l.length = size), put cs off l with
      | true, some cs' => fillW place cs' r K
      | _, _ => False
    | none => False
  | _, _, _ => False

theorem fillW_ok {place : Nat → Option (Nat × Nat)} : ∀ {cs : List Cell} {ps : List (Nat × TV)} {K : List Cell → Prop}, fillW place cs ps K → ∃ r, fillT place cs ps = some r ∧ K r
  | cs, [], K, h => ⟨cs, rfl, fl_ok h⟩
  | cs, (i, .v _ l) :: r, K, h => by
    unfold fillW at h
    split at h
    · rename_i off size hp
      split at h
      · rename_i cs' h1 h2
        obtain ⟨r', g1, g2⟩ := fillW_ok h
        obtain ⟨g3, g4⟩ := put_some h2
        have h1 : l.length = size := of_decide_eq_true h1
        refine ⟨r', ?_, g2⟩
        simp only [fillT, hp]
        rw [if_pos ⟨h1, by omega⟩, g4]; exact g1
      · exact h.elim
    · exact h.elim
  | cs, (i, .tup _) :: r, K, h => by unfold fillW at h; exact h.elim
  | cs, (i, .undef) :: r, K, h => by unfold fillW at h; exact h.elim

/-- A small number, told as it is written. -/
def litK (n : Nat) (K : Nat → Prop) : Prop :=
  match n with
  | 0 => K 0
  | 1 => K 1
  | 2 => K 2
  | 3 => K 3
  | 4 => K 4
  | 5 => K 5
  | 6 => K 6
  | 7 => K 7
  | 8 => K 8
  | 9 => K 9
  | n => K n

theorem litK_ok {n : Nat} {K : Nat → Prop} (h : litK n K) : K n := by
  unfold litK at h
  split at h <;> exact h

def bigB : Nat := 140737488355328

def appendW (P : Program) (nd : Nat → Option Node) (nid : Nat) (ts tx : TypeId) (s x : TV) (K : KT) : Prop :=
  match elemT P ts with
  | none => False
  | some e => match P.info? e, zeroT P e, srcTy P tx, decide ((P.info? e).map (·.size) = some 0) with
    | some i, some _, true, false => litK i.size fun si => ∃ m N, srcT nd si x = some (m, N) ∧
        match s with
        | .v false [.nil] => (m ≤ bigB ∧ m * i.bytes ≤ bigB) ∧ K (.v false [.ref nid 0 m si]) [(nid, some (true, N))]
        | .v false [.ref id off n s'] => match decide (s' = si), nd id with
          | true, some (true, cs) => (off + n * s' ≤ cs.length ∧ n + m ≤ bigB ∧ (n + m) * i.bytes ≤ bigB) ∧ ∃ N', (cs.drop off).take (n * s') ++ N = N' ∧ ∃ q, n + m = q ∧
              K (.v false [.ref nid 0 q s']) [(id, none), (nid, some (true, N'))]
          | _, _ => False
        | _ => False
    | _, _, _, _ => False

theorem appendW_ok {P : Program} {nd : Nat → Option Node} {nid : Nat} {ts tx : TypeId} {s x : TV} {K : KT} (h : appendW P nd nid ts tx s x K) : ∃ r l, appendT P nd nid ts tx s x = some (r, l) ∧ K r l := by
  unfold appendW at h
  split at h
  · exact h.elim
  · rename_i e he
    split at h
    · rename_i i z hi hz hs hd
      have hne : i.size ≠ 0 := fun q => by
        rw [hi] at hd; simp [q] at hd
      obtain ⟨m, N, h1, h⟩ := litK_ok h
      split at h
      · obtain ⟨⟨h2, h3⟩, h4⟩ := h
        refine ⟨_, _, ?_, h4⟩
        simp only [appendT, he, hi, hz, h1]
        rw [if_pos ⟨hs, hne⟩, if_pos ⟨h2, h3⟩]
      · rename_i id off n s' _
        split at h
        · rename_i cs h5 h6
          obtain ⟨⟨h2, h3, h4⟩, N', rfl, q, rfl, h7⟩ := h
          have h5 : s' = i.size := of_decide_eq_true h5
          refine ⟨_, _, ?_, h7⟩
          simp only [appendT, he, hi, hz, h1, h6]
          rw [if_pos ⟨hs, hne⟩, if_pos h5, if_pos ⟨h2, h3, h4⟩]
        · exact h.elim
      · exact h.elim
    · exact h.elim

def lenW (P : Program) (t : TypeId) (x : TV) (K : Nat → Prop) : Prop :=
  match x with
  | .v false [.prim (.string s)] => match P.underlying t with
    | some .string => K s.size
    | _ => False
  | .v false [.nil] => match elemT P t with
    | some _ => K 0
    | none => False
  | .v false [.sl _ n _ _] => match elemT P t with
    | some _ => K n
    | none => False
  | .v false [.ref _ _ n _] => match elemT P t with
    | some _ => K n
    | none => False
  | _ => False

theorem lenW_ok {P : Program} {t : TypeId} {x : TV} {K : Nat → Prop} (h : lenW P t x K) : ∃ n, lenT P t x = some n ∧ K n := by
  unfold lenW at h
  split at h
  · split at h
    · rename_i hu; exact ⟨_, by simp [lenT, hu], h⟩
    · exact h.elim
  · split at h
    · rename_i hu; exact ⟨_, by simp [lenT, hu], h⟩
    · exact h.elim
  · split at h
    · rename_i hu; exact ⟨_, by simp [lenT, hu], h⟩
    · exact h.elim
  · split at h
    · rename_i hu; exact ⟨_, by simp [lenT, hu], h⟩
    · exact h.elim
  · exact h.elim

/-- What is to be shown, so that operation `op` does something, of which `K` holds. -/
def effW (P : Program) (nd : Nat → Option Node) (nid : Nat) (ev : Operand → TV) (op : Op) (K : KT) : Prop :=
  match op with
  | .move x | .assign x => fv (ev x) fun v => K v []
  | .pick c a b => match ev c with
    | .v false [.prim (.bool t)] => match t with
      | true => fv (ev a) fun v => K v []
      | false => fv (ev b) fun v => K v []
    | _ => False
  | .alloc t => match zeroT P t with
    | some z => fl z fun z => K (.v false [.ptr nid 0]) [(nid, some (true, z))]
    | none => False
  | .box _ x => match ev x with
    | .v _ l => K (.v false [.ptr nid 0]) [(nid, some (true, l))]
    | _ => False
  | .build t parts => match P.underlying t, zeroT P t with
    | some (.struct fs), some z => match fs.toList.all fun f => (szT P f.type).isSome with
      | true => fillW (placeT P fs) z (parts.toList.map fun p => (p.1, ev p.2)) fun cs => K (.v true cs) []
      | false => False
    | _, _ => False
  | .buildSlice t n parts => match elemT P t with
    | some e => match zeroT P e with
      | some z => match decide (n * z.length ≤ 16777216 ∧ z.length ≠ 0) with
        | true => fillW (fun i => some (i * z.length, z.length)) (zerosT z n) (parts.toList.map fun p => (p.1, ev p.2)) fun cs => litK z.length fun s => K (.v false [.ref nid 0 n s]) [(nid, some (true, cs))]
        | false => False
      | none => False
    | none => False
  | .load t a => match szT P t, rowT P t with
    | some s, some r => match (r || decide (s = 1)) && decide (s ≠ 0) with
      | true => match ev a with
        | .v false [.ptr id off] => match nd id with
          | some (_, cs) => litK s fun s => ∃ l, cut cs off s = some l ∧ match noOwn l with
            | true => fl l fun l => match r with
              | true => K (.v true l) []
              | false => K (.v false l) []
            | false => False
          | none => False
        | .v false [.rop l] => litK s fun s => ∃ l', cut l 0 s = some l' ∧ fl l' fun l => match r with
          | true => K (.v true l) []
          | false => K (.v false l) []
        | _ => False
      | false => False
    | _, _ => False
  | .store t a x => match ev a, ev x with
    | .v false [.ptr id off], .v _ l => match nd id, decide (szT P t = some l.length) with
      | some (true, cs), true => ∃ cs', put cs off l = some cs' ∧ K .undef [(id, some (true, cs'))]
      | _, _ => False
    | _, _ => False
  | .nilCheck x => match ev x with
    | .v false [.ptr id off] => K (.v false [.ptr id off]) []
    | .v false [.rop l] => K (.v false [.rop l]) []
    | _ => False
  | .binOp op t x y _ => match ev x, ev y with
    | .v false [.prim a], .v false [.prim b] => binW P op t a b fun r => K (.v false [.prim r]) []
    | .v true l, .v true l' => ∃ r, eqStruct P t l l' = some r ∧ match op with
      | .eql => K (.v false [.prim (.bool r)]) []
      | .neq => K (.v false [.prim (.bool !r)]) []
      | _ => False
    | _, _ => False
  | .unOp op _ x => match ev x with
    | .v false [.prim a] => match op, a with
      | .not, .bool t => match t with
        | true => K (.v false [.prim (.bool false)]) []
        | false => K (.v false [.prim (.bool true)]) []
      | .neg, .int k n => ∃ c, k.wrap (0 - n) = c ∧ K (.v false [.prim (.int k c)]) []
      | .xor, .int k n => ∃ c, k.wrap (BitVec.ofInt k.bits (if k.signed then -1 else k.max) ^^^ BitVec.ofInt k.bits n).toNat = c ∧ K (.v false [.prim (.int k c)]) []
      | _, _ => False
    | _ => False
  | .convert s d x => match P.underlying s, P.underlying d, ev x with
    | some _, some (.int k), .v false [.prim (.int _ n)] => ∃ c, k.wrap n = c ∧ K (.v false [.prim (.int k c)]) []
    | some .string, some .string, .v false [.prim (.string b)] => K (.v false [.prim (.string b)]) []
    | some .string, some (.slice e), .v false [.prim (.string b)] => match P.underlying e with
      | some (.int .u8) => ∃ n N, b.size = n ∧ byteC b.data.toList = N ∧ K (.v false [.sl false n 1 N]) []
      | _ => False
    | some (.slice e), some .string, .v false [c] => match P.underlying e, c with
      | some (.int .u8), .prim _ => False
      | some (.int .u8), c => ∃ n N bs, srcT nd 1 (.v false [c]) = some (n, N) ∧ strOf N = some bs ∧ K (.v false [.prim (.string ⟨bs.toArray⟩)]) []
      | _, _ => False
    | _, _, _ => False
  | .makeSlice t l c => match ev l, ev c, elemT P t with
    | .v false [.prim (.int _ n)], .v false [.prim (.int _ n')], some e => match P.info? e, zeroT P e with
      | some i, some z => fl z fun z => match decide (z.length ≠ 0) with
        | true => (n = n' ∧ 0 ≤ n ∧ n ≤ 140737488355328 ∧ n.toNat * i.bytes ≤ bigB) ∧ ∃ q s N, n.toNat = q ∧ z.length = s ∧ zerosT z q = N ∧ K (.v false [.ref nid 0 q s]) [(nid, some (true, N))]
        | false => False
      | _, _ => False
    | _, _, _ => False
  | .slice t x lo hi none => match ev x with
    | .v false [.prim (.string b)] => match P.underlying t with
      | some .string => ∃ l h, boundT 0 (lo.map ev) = some l ∧ boundT b.size (hi.map ev) = some h ∧ (l ≤ h ∧ h ≤ b.size) ∧ K (.v false [.prim (.string (b.extract l h))]) []
      | _ => False
    | .v false [c] => match c with
      | .prim _ => False
      | c => match elemT P t with
        | some e => match szT P e, nOf c with
          | some s, some n => ∃ l h c', boundT 0 (lo.map ev) = some l ∧ boundT n (hi.map ev) = some h ∧ sliceT c s l h = some c' ∧ K (.v false [c']) []
          | _, _ => False
        | none => False
    | _ => False
  | .fieldAddr s x f => match fieldT P s f with
    | some fd => match szT P fd.type with
      | some (_ + 1) => match ev x with
        | .v false [.ptr id off] => litK fd.offset fun fo => K (.v false [.ptr id (off + fo)]) []
        | .v false [.rop l] => litK fd.offset fun fo => K (.v false [.rop (l.drop fo)]) []
        | _ => False
      | _ => False
    | none => False
  | .field s x f => match fieldT P s f with
    | some fd => match szT P fd.type, rowT P fd.type, ev x with
      | some n, some r, .v true l => match (r || decide (n = 1)) && decide (n ≠ 0) with
        | true => litK fd.offset fun fo => litK n fun n => ∃ l', cut l fo n = some l' ∧ fl l' fun l' => match r with
          | true => K (.v true l') []
          | false => K (.v false l') []
        | false => False
      | _, _, _ => False
    | none => False
  | .indexAddr t x i => match elemT P t with
    | some e => match szT P e, ev i with
      | some s, .v false [.prim (.int _ j)] => match ev x with
        | .v false [.ref id off n s'] => match decide (s' = s) with
          | true => litK s fun s => (0 ≤ j ∧ j < n) ∧ ∃ o, off + j.toNat * s = o ∧ K (.v false [.ptr id o]) []
          | false => False
        | .v false [.sl false n s' l] => match decide (s' = s) with
          | true => litK s fun s => (0 ≤ j ∧ j < n) ∧ ∃ l', (l.drop (j.toNat * s)).take s = l' ∧ K (.v false [.rop l']) []
          | false => False
        | _ => False
      | _, _ => False
    | none => False
  | .index t x i => match P.underlying t, ev x, ev i with
    | some .string, .v false [.prim (.string b)], .v false [.prim (.int _ j)] => 0 ≤ j ∧ ∃ c, b.data.toList[j.toNat]? = some c ∧ K (.v false [.prim (.int .u8 c.toNat)]) []
    | _, _, _ => False
  | .extract x i => match ev x with
    | .tup l => match l[i]? with
      | some (b, cs) => K (.v b cs) []
      | none => False
    | _ => False
  | .call c => match c.callee with
    | .builtin b => match b, c.argTypes.toList, c.args.toList.map ev with
      | .append, [ts, tx], [s, x] => appendW P nd nid ts tx s x K
      | .len, [t], [x] => lenW P t x fun n => K (.v false [.prim (.int .i64 (n : Int))]) []
      | .max, _, [.v false [.prim (.int k a)], .v false [.prim (.int _ b)]] => ∃ c, (if b > a then b else a) = c ∧ K (.v false [.prim (.int k c)]) []
      | .min, _, [.v false [.prim (.int k a)], .v false [.prim (.int _ b)]] => ∃ c, (if b < a then b else a) = c ∧ K (.v false [.prim (.int k c)]) []
      | _, _, _ => False
    | _ => False
  | _ => False

end Go.Proofs.Ytacfohamlkbpjaa
