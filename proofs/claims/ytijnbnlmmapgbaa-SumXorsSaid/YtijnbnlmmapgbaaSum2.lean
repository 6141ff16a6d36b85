/- The sum is linear: what turned bits, and texts xored, do to it. Plain: no program in sight. -/
import Derived.Test.YtijnbnlmmapgbaaSum1
import Derived.Test.YtijnbnlmmapgbaaWk8
namespace Go.WK
open Go.RowKit

def poly : BitVec 32 := 2197175160#32
theorem bit1_if (x : BitVec 32) : bit1 x = (x >>> 1) ^^^ (if x.getLsbD 0 then poly else 0#32) := by
  rw [← bitR_eq, bitR]
  have h : x.getLsbD 0 = decide (x.toNat % 2 = 1) := by simp [BitVec.getLsbD, Nat.testBit_zero]
  rw [h]
  by_cases hx : x.toNat % 2 = 1
  · rw [if_pos hx]; simp [hx, poly]
  · rw [if_neg hx]; simp [hx]
theorem bit1_xor (x y : BitVec 32) : bit1 (x ^^^ y) = bit1 x ^^^ bit1 y := by
  simp only [bit1_if, BitVec.ushiftRight_xor_distrib, BitVec.getLsbD_xor]
  cases x.getLsbD 0 <;> cases y.getLsbD 0 <;> simp
  · ac_rfl
  · ac_rfl
  · rw [show x >>> 1 ^^^ poly ^^^ (y >>> 1 ^^^ poly) = x >>> 1 ^^^ y >>> 1 ^^^ (poly ^^^ poly) by ac_rfl]; simp
theorem bit1_zero : bit1 0#32 = 0#32 := by decide
theorem bit1_inj0 (x : BitVec 32) (h : bit1 x = 0#32) : x = 0#32 := by
  rw [bit1_if] at h
  cases hl : x.getLsbD 0 with
  | false =>
    rw [hl] at h
    have h1 : x >>> 1 = 0#32 := by simpa using h
    have h2 : x.toNat % 2 = 0 := by
      have : x.getLsbD 0 = decide (x.toNat % 2 = 1) := by simp [BitVec.getLsbD, Nat.testBit_zero]
      rw [hl] at this
      have := of_decide_eq_false this.symm
      omega
    have h3 := congrArg BitVec.toNat h1
    rw [BitVec.toNat_ushiftRight, Nat.shiftRight_eq_div_pow] at h3
    apply BitVec.eq_of_toNat_eq
    simp at h3 ⊢
    omega
  | true =>
    rw [hl] at h
    have h1 : x >>> 1 = poly := by
      have : x >>> 1 ^^^ poly ^^^ poly = 0#32 ^^^ poly := by rw [show x >>> 1 ^^^ poly = 0#32 by simpa using h]
      rw [BitVec.xor_assoc, BitVec.xor_self] at this
      simpa using this
    have h3 := congrArg BitVec.toNat h1
    rw [BitVec.toNat_ushiftRight, Nat.shiftRight_eq_div_pow] at h3
    have h4 := x.isLt
    have h5 : poly.toNat = 2197175160 := by decide
    omega
theorem bits_xor (k : Nat) (x y : BitVec 32) : bits k (x ^^^ y) = bits k x ^^^ bits k y := by
  induction k with
  | zero => rfl
  | succ k ih => simp only [bits, ih, bit1_xor]
theorem bits_zero (k : Nat) : bits k 0#32 = 0#32 := by
  induction k with
  | zero => rfl
  | succ k ih => simp only [bits, ih, bit1_zero]
theorem bits_inj0 (k : Nat) (x : BitVec 32) (h : bits k x = 0#32) : x = 0#32 := by
  induction k with
  | zero => exact h
  | succ k ih => exact ih (bit1_inj0 _ h)
theorem bits_add (j k : Nat) (x : BitVec 32) : bits (j + k) x = bits j (bits k x) := by
  induction j with
  | zero => simp [bits]
  | succ j ih => rw [Nat.succ_add]; simp only [bits, ih]
theorem xor_cancel {x y : BitVec 32} (h : x ^^^ y = 0#32) : x = y := by
  have : x ^^^ y ^^^ y = 0#32 ^^^ y := by rw [h]
  rw [BitVec.xor_assoc, BitVec.xor_self] at this
  simpa using this
theorem bits_inj (k : Nat) {x y : BitVec 32} (h : bits k x = bits k y) : x = y := xor_cancel (bits_inj0 k _ (by rw [bits_xor, h, BitVec.xor_self]))
/-- An even number is only moved. -/
theorem bit1_even (n : Nat) (h : n < 2147483648) : bit1 (BitVec.ofNat 32 (2 * n)) = BitVec.ofNat 32 n := by
  rw [← bitR_eq, bitR]
  have h1 : (BitVec.ofNat 32 (2 * n)).toNat = 2 * n := by rw [BitVec.toNat_ofNat]; omega
  rw [if_neg (by rw [h1]; omega)]
  apply BitVec.eq_of_toNat_eq
  rw [BitVec.toNat_ushiftRight, Nat.shiftRight_eq_div_pow, h1, BitVec.toNat_ofNat]
  omega
theorem bits_even (k n : Nat) (h : 2 ^ k * n < 4294967296) : bits k (BitVec.ofNat 32 (2 ^ k * n)) = BitVec.ofNat 32 n := by
  induction k generalizing n with
  | zero => simp [bits]
  | succ k ih =>
    have e : 2 ^ (k + 1) * n = 2 ^ k * (2 * n) := by rw [Nat.pow_succ]; ac_rfl
    rw [e] at h ⊢
    simp only [bits]
    rw [ih (2 * n) h]
    refine bit1_even n ?_
    have : 1 ≤ 2 ^ k := Nat.one_le_two_pow
    have : 2 * n ≤ 2 ^ k * (2 * n) := Nat.le_mul_of_pos_left _ this
    omega
def unit (k : Nat) : BitVec 32 := BitVec.ofNat 32 (2 ^ k)
theorem bits_unit (M k : Nat) (hk : k < 32) (h : k ≤ M) : bits M (unit k) = bits (M - k) 1#32 := by
  have h1 : bits k (unit k) = 1#32 := by
    have := bits_even k 1 (by rw [Nat.mul_one]; exact Nat.pow_lt_pow_right (by omega) hk)
    rw [Nat.mul_one] at this
    exact this
  rw [show M = (M - k) + k by omega, bits_add, h1]
  congr 1
  omega

/-! ### Many bytes -/
theorem byte_xor (b c : UInt8) : BitVec.ofNat 32 (b ^^^ c).toNat = BitVec.ofNat 32 b.toNat ^^^ BitVec.ofNat 32 c.toNat := by
  apply BitVec.eq_of_toNat_eq
  have h1 := (b ^^^ c).toNat_lt
  have h2 := b.toNat_lt
  have h3 := c.toNat_lt
  rw [BitVec.toNat_xor, BitVec.toNat_ofNat, BitVec.toNat_ofNat, BitVec.toNat_ofNat, Nat.mod_eq_of_lt (by omega), Nat.mod_eq_of_lt (by omega), Nat.mod_eq_of_lt (by omega), UInt8.toNat_xor]
theorem byte1_xor (r s : BitVec 32) (b c : UInt8) : byte1 (r ^^^ s) (b ^^^ c) = byte1 r b ^^^ byte1 s c := by
  unfold byte1
  rw [byte_xor, ← bits_xor]
  congr 1
  ac_rfl
theorem moreR_zip (l m : List UInt8) (h : l.length = m.length) : ∀ r s : BitVec 32, moreR (r ^^^ s) (List.zipWith (· ^^^ ·) l m) = moreR r l ^^^ moreR s m := by
  induction l generalizing m with
  | nil => intro r s; cases m with
    | nil => rfl
    | cons c m => simp at h
  | cons b l ih => intro r s; cases m with
    | nil => simp at h
    | cons c m =>
      simp only [List.zipWith_cons_cons, moreR, List.foldl_cons, byte1_xor]
      exact ih m (by simpa using h) _ _
theorem byte1_move (r y : BitVec 32) (b : UInt8) : byte1 (r ^^^ y) b = byte1 r b ^^^ bits 8 y := by
  unfold byte1
  rw [← bits_xor]
  congr 1
  ac_rfl
theorem moreR_move (l : List UInt8) : ∀ r y : BitVec 32, moreR (r ^^^ y) l = moreR r l ^^^ bits (8 * l.length) y := by
  induction l with
  | nil => intro r y; rfl
  | cons b l ih =>
    intro r y
    simp only [moreR, List.foldl_cons, byte1_move] at ih ⊢
    rw [ih, List.length_cons, show 8 * (l.length + 1) = 8 * l.length + 8 by omega, bits_add]
theorem moreR_set (l : List UInt8) (q : Nat) (d : UInt8) (r : BitVec 32) (hq : q < l.length) : moreR r (l.set q (l.getD q 0 ^^^ d)) = moreR r l ^^^ bits (8 * (l.length - q)) (BitVec.ofNat 32 d.toNat) := by
  have e1 : l.set q (l.getD q 0 ^^^ d) = l.take q ++ (l.getD q 0 ^^^ d) :: l.drop (q + 1) := by rw [List.set_eq_take_append_cons_drop, if_pos hq]
  have e2 : l = l.take q ++ l.getD q 0 :: l.drop (q + 1) := by
    simp only [List.getD_eq_getElem?_getD, List.getElem?_eq_getElem hq, Option.getD_some]
    rw [← List.drop_eq_getElem_cons hq, List.take_append_drop]
  have key : ∀ s : BitVec 32, byte1 s (l.getD q 0 ^^^ d) = byte1 s (l.getD q 0) ^^^ bits 8 (BitVec.ofNat 32 d.toNat) := fun s => by
    unfold byte1
    rw [byte_xor, ← bits_xor]
    congr 1
    ac_rfl
  rw [e1, moreR_append]
  conv => rhs; rw [show moreR r l = moreR r (l.take q ++ l.getD q 0 :: l.drop (q + 1)) from congrArg _ e2, moreR_append]
  simp only [moreR, List.foldl_cons, key]
  have := moreR_move (l.drop (q + 1)) (byte1 (List.foldl byte1 r (l.take q)) (l.getD q 0)) (bits 8 (BitVec.ofNat 32 d.toNat))
  simp only [moreR] at this
  rw [this, ← bits_add]
  congr 2
  rw [List.length_drop]
  omega

/-! ### What stands for a sealed text -/
theorem split8 (m : Nat) (r s : BitVec 32) : bits (m + 8) (r ^^^ s) = bits m (byte1 r (UInt8.ofNat s.toNat) ^^^ (s >>> 8)) := by
  rw [bits_add]
  congr 1
  have h := s.isLt
  have ea : (BitVec.ofNat 32 (s.toNat % 256)).toNat = s.toNat % 2 ^ 8 := by rw [BitVec.toNat_ofNat]; omega
  have eb : (BitVec.ofNat 32 (2 ^ 8 * (s.toNat / 256))).toNat = 2 ^ 8 * (s.toNat / 2 ^ 8) := by rw [BitVec.toNat_ofNat]; omega
  have e : s = BitVec.ofNat 32 (s.toNat % 256) ^^^ BitVec.ofNat 32 (2 ^ 8 * (s.toNat / 256)) := by
    apply BitVec.eq_of_toNat_eq
    rw [BitVec.toNat_xor, ea, eb]
    apply Nat.eq_of_testBit_eq
    intro i
    rw [Nat.testBit_xor, Nat.testBit_mod_two_pow, Nat.testBit_two_pow_mul, Nat.testBit_div_two_pow]
    by_cases hi : i < 8
    · have : ¬ 8 ≤ i := by omega
      simp [hi, this]
    · have h8 : 8 ≤ i := by omega
      simp [hi, h8]
  conv => lhs; rw [e, ← BitVec.xor_assoc, bits_xor, bits_even 8 (s.toNat / 256) (by omega)]
  unfold byte1
  rw [UInt8.toNat_ofNat']
  congr 1
  apply BitVec.eq_of_toNat_eq
  rw [BitVec.toNat_ushiftRight, Nat.shiftRight_eq_div_pow, BitVec.toNat_ofNat, Nat.mod_eq_of_lt (by omega)]
theorem moreR_le4 (r s : BitVec 32) : moreR r (le4 s) = bits 32 (r ^^^ s) := by
  show _ = bits (24 + 8) _
  rw [split8 24]
  show _ = bits (16 + 8) _
  rw [split8 16]
  show _ = bits (8 + 8) _
  rw [split8 8]
  show _ = bits (0 + 8) _
  rw [split8 0]
  have e : s >>> 8 >>> 8 >>> 8 >>> 8 = 0#32 := by
    have h := s.isLt
    apply BitVec.eq_of_toNat_eq
    simp only [BitVec.toNat_ushiftRight, Nat.shiftRight_eq_div_pow, BitVec.toNat_ofNat]
    omega
  rw [e]
  simp only [bits, BitVec.xor_zero, moreR, le4, List.foldl_cons, List.foldl_nil]
  simp only [← BitVec.shiftRight_add, BitVec.ushiftRight_zero]
def comb (a b c d : UInt8) : BitVec 32 := BitVec.ofNat 32 (a.toNat + 256 * b.toNat + 65536 * c.toNat + 16777216 * d.toNat)
theorem le4_comb (a b c d : UInt8) : le4 (comb a b c d) = [a, b, c, d] := by
  have h1 := a.toNat_lt
  have h2 := b.toNat_lt
  have h3 := c.toNat_lt
  have h4 := d.toNat_lt
  have h : (comb a b c d).toNat = a.toNat + 256 * b.toNat + 65536 * c.toNat + 16777216 * d.toNat := by unfold comb; rw [BitVec.toNat_ofNat]; omega
  unfold le4
  simp only [BitVec.toNat_ushiftRight, Nat.shiftRight_eq_div_pow, h]
  have key : ∀ (x : Nat) (y : UInt8), x % 256 = y.toNat → UInt8.ofNat x = y := fun x y hxy => by
    apply UInt8.toNat_inj.1
    rw [UInt8.toNat_ofNat']
    exact hxy
  rw [key _ a (by omega), key _ b (by omega), key _ c (by omega), key _ d (by omega)]
theorem le4_surj (t : List UInt8) (h : t.length = 4) : ∃ s, t = le4 s := by
  match t, h with
  | [a, b, c, d], _ => exact ⟨comb a b c d, (le4_comb a b c d).symm⟩
theorem openB_iff (l : List UInt8) (h : 4 ≤ l.length) : openB l = decide (moreR (~~~ 0#32) l = bits 32 (BitVec.allOnes 32)) := by
  unfold openB
  rw [decide_eq_true h, Bool.true_and]
  apply decide_eq_decide.2
  obtain ⟨s, hs⟩ := le4_surj (l.drop (l.length - 4)) (by simp; omega)
  rw [hs]
  have e : moreR (~~~ 0#32) l = bits 32 (moreR (~~~ 0#32) (l.take (l.length - 4)) ^^^ s) := by
    rw [← moreR_le4, ← hs, ← moreR_append, List.take_append_drop]
  rw [e, more]
  generalize moreR (~~~ 0#32) (l.take (l.length - 4)) = r
  constructor
  · intro h1
    have h2 := congrArg (moreR 0#32) h1
    rw [moreR_le4, moreR_le4] at h2
    have h3 := bits_inj 32 h2
    rw [BitVec.zero_xor, BitVec.zero_xor] at h3
    rw [h3]
    congr 1
    rw [← BitVec.xor_allOnes, ← BitVec.xor_assoc, BitVec.xor_self, BitVec.zero_xor]
  · intro h1
    have h3 := bits_inj 32 h1
    have : s = ~~~ r := by
      rw [← BitVec.xor_allOnes, ← h3, ← BitVec.xor_assoc, BitVec.xor_self, BitVec.zero_xor]
    rw [this]
theorem moreR_sealed (l : List UInt8) : moreR (~~~ 0#32) (sealed l) = bits 32 (BitVec.allOnes 32) := by
  have h := openB_sealed l
  rw [openB_iff _ (by simp [sealed, le4_len])] at h
  exact of_decide_eq_true h
/-- One byte changed. -/
theorem openB_byte (l : List UInt8) (q : Nat) (d : UInt8) (hq : q < (sealed l).length) (hd : d ≠ 0) : openB ((sealed l).set q ((sealed l).getD q 0 ^^^ d)) = false := by
  rw [openB_iff _ (by simp [sealed, le4_len])]
  apply decide_eq_false
  rw [moreR_set _ _ _ _ hq, moreR_sealed]
  intro h
  have h1 : bits (8 * ((sealed l).length - q)) (BitVec.ofNat 32 d.toNat) = 0#32 := by
    have : bits 32 (BitVec.allOnes 32) ^^^ (bits 32 (BitVec.allOnes 32) ^^^ bits (8 * ((sealed l).length - q)) (BitVec.ofNat 32 d.toNat)) = bits 32 (BitVec.allOnes 32) ^^^ bits 32 (BitVec.allOnes 32) := by rw [h]
    rw [← BitVec.xor_assoc, BitVec.xor_self, BitVec.zero_xor] at this
    exact this
  have h2 := congrArg BitVec.toNat (bits_inj0 _ _ h1)
  have h3 := d.toNat_lt
  rw [BitVec.toNat_ofNat, Nat.mod_eq_of_lt (by omega)] at h2
  exact hd (UInt8.toNat_inj.1 (by simpa using h2))

/-! ### Bits turned -/
def bitSet (v : BitVec 32) (k : Nat) : Bool := decide ((v >>> k) &&& 1#32 = 1#32)
def low (v : BitVec 32) : Nat → BitVec 32
  | 0 => 0#32
  | k + 1 => if bitSet v k then low v k ^^^ unit k else low v k
def flip (x : List UInt8) (p : Nat) : List UInt8 := x.set (p / 8) (x.getD (p / 8) 0 ^^^ UInt8.ofNat (2 ^ (p % 8)))
def turn (x : List UInt8) (at_ : Nat) (v : BitVec 32) : Nat → List UInt8
  | 0 => x
  | k + 1 => if bitSet v k then flip (turn x at_ v k) (at_ + k) else turn x at_ v k
theorem turn_len (x : List UInt8) (at_ : Nat) (v : BitVec 32) (k : Nat) : (turn x at_ v k).length = x.length := by
  induction k with
  | zero => rfl
  | succ k ih =>
    unfold turn
    split
    · simp [flip, ih]
    · exact ih
theorem turn_sum (x : List UInt8) (at_ : Nat) (v : BitVec 32) (r : BitVec 32) (k : Nat) (hk : k ≤ 32) (h : at_ + k ≤ 8 * x.length) : moreR r (turn x at_ v k) = moreR r x ^^^ bits (8 * x.length - at_) (low v k) := by
  induction k with
  | zero => simp [turn, low, bits_zero]
  | succ k ih =>
    have ih := ih (by omega) (by omega)
    unfold turn low
    split
    · have hq : (at_ + k) / 8 < (turn x at_ v k).length := by rw [turn_len]; omega
      rw [flip, moreR_set _ _ _ _ hq, ih, bits_xor, turn_len, BitVec.xor_assoc]
      congr 2
      have h1 : BitVec.ofNat 32 (UInt8.ofNat (2 ^ ((at_ + k) % 8))).toNat = unit ((at_ + k) % 8) := by
        have : 2 ^ ((at_ + k) % 8) < 2 ^ 8 := Nat.pow_lt_pow_right (by omega) (by omega)
        rw [UInt8.toNat_ofNat', Nat.mod_eq_of_lt this]; rfl
      rw [h1, bits_unit _ _ (by omega) (by omega), bits_unit _ k (by omega) (by omega)]
      congr 1
      omega
    · exact ih
theorem openB_turn (l : List UInt8) (at_ : Nat) (v : BitVec 32) (k : Nat) (hk : k ≤ 32) (h : at_ + k ≤ 8 * (sealed l).length) : openB (turn (sealed l) at_ v k) = decide (low v k = 0#32) := by
  rw [openB_iff _ (by rw [turn_len]; simp [sealed, le4_len])]
  apply decide_eq_decide.2
  rw [turn_sum _ _ _ _ k hk h, moreR_sealed]
  constructor
  · intro h
    have : bits 32 (BitVec.allOnes 32) ^^^ (bits 32 (BitVec.allOnes 32) ^^^ bits (8 * (sealed l).length - at_) (low v k)) = bits 32 (BitVec.allOnes 32) ^^^ bits 32 (BitVec.allOnes 32) := by rw [h]
    rw [← BitVec.xor_assoc, BitVec.xor_self, BitVec.zero_xor] at this
    exact bits_inj0 _ _ this
  · intro h; rw [h, bits_zero, BitVec.xor_zero]
theorem low_bound (v : BitVec 32) (k : Nat) (hk : k ≤ 32) : (low v k).toNat < 2 ^ k := by
  induction k with
  | zero => simp [low]
  | succ k ih =>
    have ih := ih (by omega)
    have h2 : 2 ^ (k + 1) = 2 * 2 ^ k := by rw [Nat.pow_succ]; omega
    unfold low
    split
    · rw [BitVec.toNat_xor]
      have : (unit k).toNat = 2 ^ k := by unfold unit; rw [BitVec.toNat_ofNat]; exact Nat.mod_eq_of_lt (Nat.pow_lt_pow_right (by omega) (by omega))
      rw [this]
      exact Nat.xor_lt_two_pow (by omega) (by omega)
    · omega
theorem low_set (v : BitVec 32) (k : Nat) (hk : k < 32) (h : bitSet v k = true) : low v (k + 1) ≠ 0#32 := by
  intro h0
  unfold low at h0
  rw [if_pos h] at h0
  have h1 := xor_cancel h0
  have h2 := low_bound v k (by omega)
  have : (unit k).toNat = 2 ^ k := by unfold unit; rw [BitVec.toNat_ofNat]; exact Nat.mod_eq_of_lt (Nat.pow_lt_pow_right (by omega) (by omega))
  rw [h1, this] at h2
  omega

section ops
variable {m : Bool} {cx : Cx} {fs : Slots} {H : List Chunk} {Q : Post} {ops : Array Oper} {rest : List Oper} {g : Option (Nat × Bool)} {d : Nat} {ty : TypeId} {pos : String} {af : Array Edge}
theorem o_shl8 {x y : Operand} {t yt : TypeId} {kj : IntKind} {q : Int} (j : Nat) (hok : okS cx.n ops fs d g = true) (hx : ev fs x = some (.int .u8 1)) (hy : ev fs y = some (.int kj q)) (hq : q = (j : Int)) (hj : j < 8) (k : TriX m cx ops ((d, byteV (UInt8.ofNat (2 ^ j))) :: fs) H rest Q) : TriX m cx ops fs H (⟨some d, .binOp .shl t x y yt, ty, pos, af, g⟩ :: rest) Q :=
  o_shl hok hx hy (by omega) (by
    have : Value.int .u8 (IntKind.u8.wrap (1 * 2 ^ min q.toNat IntKind.u8.bits)) = byteV (UInt8.ofNat (2 ^ j)) := by
      subst hq
      have h8 : IntKind.u8.bits = 8 := rfl
      rw [h8, Int.toNat_natCast, Nat.min_eq_left (by omega)]
      match j, hj with
      | 0, _ => simp [byteV, IntKind.wrap, IntKind.bits, IntKind.signed]
      | 1, _ => simp [byteV, IntKind.wrap, IntKind.bits, IntKind.signed]
      | 2, _ => simp [byteV, IntKind.wrap, IntKind.bits, IntKind.signed]
      | 3, _ => simp [byteV, IntKind.wrap, IntKind.bits, IntKind.signed]
      | 4, _ => simp [byteV, IntKind.wrap, IntKind.bits, IntKind.signed]
      | 5, _ => simp [byteV, IntKind.wrap, IntKind.bits, IntKind.signed]
      | 6, _ => simp [byteV, IntKind.wrap, IntKind.bits, IntKind.signed]
      | 7, _ => simp [byteV, IntKind.wrap, IntKind.bits, IntKind.signed]
    rw [this]; exact k)
/-- Nothing is a row of nothing. -/
theorem nilRow {w : World} (e s : Nat) (h : Sat cx H w) : Sat cx (row (.slice none 0 0) e s 0 [] :: H) w :=
  h.push (Chg.refl _ _) _ ⟨by simp, .inl ⟨rfl, rfl⟩⟩ (fun k hk => by cases hk)
end ops

/-! ### Xored texts -/
def xorB (a b : List UInt8) (k : Nat) : List UInt8 := List.zipWith (· ^^^ ·) (a.take k) (b.take k)
theorem xorB_snoc (a b : List UInt8) (k : Nat) (h1 : k < a.length) (h2 : k < b.length) : xorB a b (k + 1) = xorB a b k ++ [a.getD k 0 ^^^ b.getD k 0] := by
  unfold xorB
  rw [take_snoc a k h1, take_snoc b k h2, List.zipWith_append (by simp; omega)]
  rfl
theorem zeros_zip (x : List UInt8) : List.zipWith (· ^^^ ·) x (List.replicate x.length (0 : UInt8)) = x := by
  induction x with
  | nil => rfl
  | cons b x ih => simp only [List.length_cons, List.replicate_succ, List.zipWith_cons_cons, ih]; simp
theorem more_xor (a b : List UInt8) (h : a.length = b.length) : more 0#32 (List.zipWith (· ^^^ ·) a b) = more 0#32 a ^^^ more 0#32 b ^^^ more 0#32 (List.replicate a.length 0) := by
  have hz : (List.zipWith (· ^^^ ·) a b).length = a.length := by simp [h]
  have e1 := moreR_zip a b h (~~~ 0#32) (~~~ 0#32)
  have e2 := moreR_zip (List.zipWith (· ^^^ ·) a b) (List.replicate a.length 0) (by simp [h]) ((~~~ 0#32) ^^^ (~~~ 0#32)) (~~~ 0#32)
  rw [e1, ← hz, zeros_zip, BitVec.xor_self, BitVec.zero_xor] at e2
  unfold more
  rw [e2, hz]
  simp only [← BitVec.xor_allOnes]
  generalize moreR _ a = x
  generalize moreR _ b = y
  generalize moreR _ _ = z
  rw [show x ^^^ BitVec.allOnes 32 ^^^ (y ^^^ BitVec.allOnes 32) ^^^ (z ^^^ BitVec.allOnes 32) = x ^^^ y ^^^ z ^^^ BitVec.allOnes 32 ^^^ (BitVec.allOnes 32 ^^^ BitVec.allOnes 32) by ac_rfl, BitVec.xor_self, BitVec.xor_zero]
end Go.WK
