/- Values and rows of values in memory; their keys as bytes, and back. Plain: no program in sight. -/
import Derived.Test.YtgogkkkacpacgaaDoorWk9
namespace Go.WK
open Go.RowKit

/-- A value: its kind, its number, its text. -/
structure Val where
  k : Int
  n : Int
  s : List UInt8
instance : DecidableEq Val := fun a b => decidable_of_iff (a.k = b.k ∧ a.n = b.n ∧ a.s = b.s) ⟨fun h => by cases a; cases b; simp_all, fun h => by rw [h]; simp⟩
def Val.zero : Val := ⟨0, 0, []⟩
def Val.cs (v : Val) : List Value := [.int .i64 v.k, .int .i64 v.n, .string (B v.s)]
abbrev aggV (v : Val) : Value := .agg v.cs.toArray
def valsV : List Val → List Value
  | [] => []
  | v :: l => v.cs ++ valsV l
def valKs : List SK := [.int .i64, .int .i64, .str]

theorem valsV_length (l : List Val) : (valsV l).length = l.length * 3 := by
  induction l with
  | nil => rfl
  | cons v l ih => simp [valsV, Val.cs, ih]; omega
theorem valsV_append (l m : List Val) : valsV (l ++ m) = valsV l ++ valsV m := by
  induction l with
  | nil => rfl
  | cons v l ih => simp [valsV, ih]
theorem valsV_drop (l : List Val) (i : Nat) : (valsV l).drop (i * 3) = valsV (l.drop i) := by
  induction l generalizing i with
  | nil => simp [valsV]
  | cons v l ih =>
    cases i with
    | zero => simp
    | succ i => rw [show (i + 1) * 3 = 3 + i * 3 by omega, ← List.drop_drop]; simp [valsV, Val.cs, ih]
theorem valsV_take (l : List Val) (i : Nat) : (valsV l).take (i * 3) = valsV (l.take i) := by
  induction l generalizing i with
  | nil => simp [valsV]
  | cons v l ih =>
    cases i with
    | zero => simp [valsV]
    | succ i => rw [show (i + 1) * 3 = i * 3 + 1 + 1 + 1 by omega]; simp [valsV, Val.cs, ih]
theorem valsV_at (l : List Val) (i : Nat) (h : i < l.length) : ((valsV l).drop (i * 3)).take 3 = (l.getD i Val.zero).cs := by
  rw [valsV_drop, List.drop_eq_getElem_cons h]
  simp [valsV, Val.cs, List.getD, h]
theorem valsV_one (l : List Val) : ∀ u ∈ valsV l, u.oneCell' = true := by
  induction l with
  | nil => simp [valsV]
  | cons v l ih =>
    intro u hu
    rcases List.mem_append.1 hu with h | h
    · simp [Val.cs] at h
      rcases h with rfl | rfl | rfl <;> rfl
    · exact ih u h
theorem valsV_set (l : List Val) (i : Nat) (v : Val) (h : i < l.length) : setL (valsV l) (i * 3) v.cs = valsV (l.set i v) := by
  rw [setL_eq _ _ _ (by rw [valsV_length]; simp [Val.cs]; omega), List.set_eq_take_append_cons_drop, if_pos h, valsV_append, ← valsV_take]
  have : i * 3 + v.cs.length = (i + 1) * 3 := by simp [Val.cs]; omega
  rw [this, valsV_drop, List.append_assoc]
  rfl
theorem same_cs (a b : Val) : sameL a.cs b.cs = decide (a = b) := by
  have h1 : sameL a.cs b.cs = (a.k == b.k && (a.n == b.n && (a.s == b.s && true))) := by simp [Val.cs, sameL, sameV, B_toList]
  rw [h1]
  by_cases h : a = b
  · subst h; simp
  · rw [decide_eq_false h]
    cases a; cases b
    simp_all
theorem val_dec (a b : Val) : decide (a = b) = (decide (a.k = b.k) && (decide (a.n = b.n) && decide (a.s = b.s))) := by
  by_cases h : a = b
  · subst h; simp
  · rw [decide_eq_false h]
    cases a; cases b
    simp_all
theorem le_dec (n m : Nat) : decide ((n : Int) ≤ (m : Int)) = decide (n ≤ m) := decide_eq_decide.2 (by omega)
theorem fits_cs (a : Val) : fitsL valKs a.cs = true := by simp [valKs, Val.cs, fitsL, SK.fits]

theorem take_snocV (l : List Val) (k : Nat) (h : k < l.length) : l.take (k + 1) = l.take k ++ [l.getD k Val.zero] := by
  rw [List.take_succ_eq_append_getElem h]; simp [List.getD, h]
theorem getD_mem (l : List Val) (k : Nat) (h : k < l.length) : l.getD k Val.zero ∈ l := by
  simp [List.getD, h]
section ops
variable {m : Bool} {cx : Cx} {fs : Slots} {H : List Chunk} {Q : Post} {ops : Array Oper} {rest : List Oper} {g : Option (Nat × Bool)} {d : Nat} {ty : TypeId} {pos : String} {af : Array Edge}
/-- An element of a row of values. -/
theorem o_loadV {x : Operand} {t kk : Nat} {A : Option Addr} {l : List Val} (i : Nat) (ht : aggB cx.P t = some true) (hz : szB cx.P t = some 3) (hok : okS cx.n ops fs d g = true) (hx : ev fs x = some (ptrAt A kk)) (hr : RdS cx H A (valsV l)) (hk : kk = i * 3) (hi : i < l.length)
    (k : TriX m cx ops ((d, aggV (l.getD i Val.zero)) :: fs) H rest Q) : TriX m cx ops fs H (⟨some d, .load t x, ty, pos, af, g⟩ :: rest) Q :=
  o_loadRA ht hz hok hx hr (by rw [hk]; exact valsV_at l i hi) rfl (by decide) k
theorem o_eqlV {x y : Operand} {t yt : TypeId} {a b : Val} (hf : flatB cx.P t = some valKs) (hok : okS cx.n ops fs d g = true) (hx : ev fs x = some (aggV a)) (hy : ev fs y = some (aggV b)) (k : TriX m cx ops ((d, .bool (decide (a = b))) :: fs) H rest Q) :
    TriX m cx ops fs H (⟨some d, .binOp .eql t x y yt, ty, pos, af, g⟩ :: rest) Q := o_eqlA hf hok hx hy (fits_cs a) (fits_cs b) (by rw [same_cs]; exact k)
theorem o_neqV {x y : Operand} {t yt : TypeId} {a b : Val} (hf : flatB cx.P t = some valKs) (hok : okS cx.n ops fs d g = true) (hx : ev fs x = some (aggV a)) (hy : ev fs y = some (aggV b)) (k : TriX m cx ops ((d, .bool (!decide (a = b))) :: fs) H rest Q) :
    TriX m cx ops fs H (⟨some d, .binOp .neq t x y yt, ty, pos, af, g⟩ :: rest) Q := o_neqA hf hok hx hy (fits_cs a) (fits_cs b) (by rw [same_cs]; exact k)
theorem o_loadBV {x : Operand} {t bt b i : Nat} {v : Val} (ht : aggB cx.P t = some true) (hz : szB cx.P t = some 3) (hn : Nth H i (box b bt v.cs)) (hok : okS cx.n ops fs d g = true) (hx : ev fs x = some (.pointer (some ⟨b, 0, none⟩)))
    (k : TriX m cx ops ((d, aggV v) :: fs) H rest Q) : TriX m cx ops fs H (⟨some d, .load t x, ty, pos, af, g⟩ :: rest) Q := o_loadA ht hz hn hok hx (vs := v.cs) rfl rfl k
theorem o_storeBV {x y : Operand} {t bt b i : Nat} {u v : Val} (hz : szB cx.P t = some 3) (hn : Nth H i (box b bt u.cs)) (hok : okW ops fs g = true) (hx : ev fs x = some (.pointer (some ⟨b, 0, none⟩))) (hy : ev fs y = some (aggV v))
    (k : TriX false cx ops fs (setH H i (box b bt v.cs)) rest Q) : TriX false cx ops fs H (⟨none, .store t x y, ty, pos, af, g⟩ :: rest) Q := o_store hz hn hok hx hy (vs := v.cs) rfl rfl (by simp [Val.cs]) rfl k
/-- A number made a byte. -/
theorem o_toByte {x : Operand} {t u : TypeId} {ki : IntKind} {p : Int} {ds : TypeDesc} (hok : okS cx.n ops fs d g = true) (hx : ev fs x = some (.int ki p)) (ht : cx.P.underlying t = some ds) (hu : cx.P.underlying u = some (.int .u8)) (h0 : 0 ≤ p) (k : TriX m cx ops ((d, byteV (UInt8.ofNat p.toNat)) :: fs) H rest Q) :
    TriX m cx ops fs H (⟨some d, .convert t u x, ty, pos, af, g⟩ :: rest) Q :=
  o_conv hok hx ht hu (by
    have : Value.int .u8 (IntKind.u8.wrap p) = byteV (UInt8.ofNat p.toNat) := by
      simp [byteV, IntKind.wrap, IntKind.bits, IntKind.signed]; omega
    rw [this]; exact k)
end ops

theorem flip63 (a : Nat) (h : a < 2 ^ 64) : a ^^^ 2 ^ 63 = (a + 2 ^ 63) % 2 ^ 64 := by
  apply Nat.eq_of_testBit_eq
  intro i
  rw [Nat.testBit_xor, Nat.testBit_two_pow, Nat.testBit_mod_two_pow, Nat.add_comm]
  rcases Nat.lt_trichotomy i 63 with hi | hi | hi
  · rw [Nat.testBit_two_pow_add_gt hi]
    have h1 : i < 64 := by omega
    have h2 : ¬ 63 = i := by omega
    simp [h1, h2]
  · subst hi
    rw [Nat.testBit_two_pow_add_eq]
    simp
  · have h1 : ¬ i < 64 := by omega
    have h2 : ¬ 63 = i := by omega
    have h3 : a.testBit i = false := Nat.testBit_lt_two_pow (Nat.lt_of_lt_of_le h (Nat.pow_le_pow_right (by omega) (by omega)))
    simp [h1, h2, h3]
def up (n : Int) : Nat := (n + 9223372036854775808).toNat
section ops
variable {m : Bool} {cx : Cx} {fs : Slots} {H : List Chunk} {Q : Post} {ops : Array Oper} {rest : List Oper} {g : Option (Nat × Bool)} {d : Nat} {ty : TypeId} {pos : String} {af : Array Edge}
/-- The sign bit turned. -/
theorem o_flip64 {x y : Operand} {t yt : TypeId} {n : Int} (hok : okS cx.n ops fs d g = true) (hx : ev fs x = some (.int .u64 (IntKind.u64.wrap n))) (hy : ev fs y = some (.int .u64 9223372036854775808)) (h1 : -9223372036854775808 ≤ n) (h2 : n ≤ 9223372036854775807) (k : TriX m cx ops ((d, .int .u64 (up n : Int)) :: fs) H rest Q) :
    TriX m cx ops fs H (⟨some d, .binOp .xor t x y yt, ty, pos, af, g⟩ :: rest) Q :=
  o_xor hok hx hy (by
    have e1 : (BitVec.ofInt IntKind.u64.bits (IntKind.u64.wrap n)).toNat = (n % 2 ^ 64).toNat := by
      have : IntKind.u64.wrap n = n % 2 ^ 64 := by simp [IntKind.wrap, IntKind.bits, IntKind.signed]
      rw [this]; simp [IntKind.bits, BitVec.toNat_ofInt]
    have e2 : (BitVec.ofInt IntKind.u64.bits 9223372036854775808).toNat = 2 ^ 63 := by decide
    have e3 : ((BitVec.ofInt IntKind.u64.bits (IntKind.u64.wrap n) ^^^ BitVec.ofInt IntKind.u64.bits 9223372036854775808).toNat : Int) = (up n : Int) := by
      rw [BitVec.toNat_xor, e1, e2, flip63 _ (by omega)]
      unfold up; omega
    have : Value.int .u64 (IntKind.u64.wrap ((BitVec.ofInt IntKind.u64.bits (IntKind.u64.wrap n) ^^^ BitVec.ofInt IntKind.u64.bits 9223372036854775808).toNat : Int)) = .int .u64 (up n : Int) := by
      rw [e3]
      simp only [IntKind.wrap, IntKind.bits, IntKind.signed, up]
      congr 1
      simp only [Bool.false_and, Bool.false_eq_true, if_false]
      omega
    rw [this]; exact k)
theorem o_up64 {x y : Operand} {t yt : TypeId} {n : Int} (hok : okS cx.n ops fs d g = true) (hx : ev fs x = some (.int .u64 (IntKind.u64.wrap n))) (hy : ev fs y = some (.int .u64 9223372036854775808)) (h1 : -9223372036854775808 ≤ n) (h2 : n ≤ 9223372036854775807) (k : TriX m cx ops ((d, .int .u64 (up n : Int)) :: fs) H rest Q) :
    TriX m cx ops fs H (⟨some d, .binOp .add t x y yt, ty, pos, af, g⟩ :: rest) Q :=
  o_add hok hx hy (by
    have : Value.int .u64 (IntKind.u64.wrap (IntKind.u64.wrap n + 9223372036854775808)) = .int .u64 (up n : Int) := by
      simp only [IntKind.wrap, IntKind.bits, IntKind.signed, up]
      congr 1
      simp only [Bool.false_and, Bool.false_eq_true, if_false]
      omega
    rw [this]; exact k)
theorem o_remP {x y : Operand} {t yt : TypeId} {u : Nat} (hok : okS cx.n ops fs d g = true) (hx : ev fs x = some (.int .u64 (u : Int))) (hy : ev fs y = some (.int .u64 256)) (hu : True) (k : TriX m cx ops ((d, .int .u64 ((u % 256 : Nat) : Int)) :: fs) H rest Q) :
    TriX m cx ops fs H (⟨some d, .binOp .rem t x y yt, ty, pos, af, g⟩ :: rest) Q :=
  o_rem hok hx hy (by decide) (by
    have : Value.int .u64 ((u : Int).tmod 256) = .int .u64 ((u % 256 : Nat) : Int) := by
      rw [Int.tmod_eq_emod_of_nonneg (by omega)]; rfl
    rw [this]; exact k)
theorem o_quoP {x y : Operand} {t yt : TypeId} {u : Nat} (hok : okS cx.n ops fs d g = true) (hx : ev fs x = some (.int .u64 (u : Int))) (hy : ev fs y = some (.int .u64 256)) (hu : u < 18446744073709551616) (k : TriX m cx ops ((d, .int .u64 ((u / 256 : Nat) : Int)) :: fs) H rest Q) :
    TriX m cx ops fs H (⟨some d, .binOp .quo t x y yt, ty, pos, af, g⟩ :: rest) Q :=
  o_quo hok hx hy (by decide) (by
    have : Value.int .u64 (IntKind.u64.wrap ((u : Int).tdiv 256)) = .int .u64 ((u / 256 : Nat) : Int) := by
      rw [Int.tdiv_eq_ediv_of_nonneg (by omega)]
      simp only [IntKind.wrap, IntKind.bits, IntKind.signed]
      congr 1
      simp only [Bool.false_and, Bool.false_eq_true, if_false]
      omega
    rw [this]; exact k)
theorem up_lt {n : Int} (h : n ≤ 9223372036854775807) : up n < 18446744073709551616 := by unfold up; omega
/-- A number of 64 bits moved by whole bytes. -/
theorem o_shrB {x y : Operand} {t yt : TypeId} {kj : IntKind} {q : Int} (u j : Nat) (hok : okS cx.n ops fs d g = true) (hx : ev fs x = some (.int .u64 (u : Int))) (hy : ev fs y = some (.int kj q)) (hq : q = ((8 * j : Nat) : Int)) (hj : j ≤ 8) (k : TriX m cx ops ((d, .int .u64 ((u / 256 ^ j : Nat) : Int)) :: fs) H rest Q) :
    TriX m cx ops fs H (⟨some d, .binOp .shr t x y yt, ty, pos, af, g⟩ :: rest) Q :=
  o_shr hok hx hy (by omega) (by
    have : Value.int .u64 ((u : Int).fdiv (2 ^ min q.toNat IntKind.u64.bits)) = .int .u64 ((u / 256 ^ j : Nat) : Int) := by
      subst hq
      rw [Int.toNat_natCast, show IntKind.u64.bits = 64 from rfl, Nat.min_eq_left (by omega), Int.fdiv_eq_ediv_of_nonneg _ (by apply Int.le_of_lt; apply Int.pow_pos; omega)]
      have h2 : (2 : Int) ^ (8 * j) = ((256 ^ j : Nat) : Int) := by rw [show (256 : Nat) = 2 ^ 8 from rfl, ← Nat.pow_mul]; simp
      rw [h2, ← Int.natCast_ediv]
    rw [this]; exact k)
end ops

/-! ### The order of values, of rows -/
def cmpB : List UInt8 → List UInt8 → Int
  | [], [] => 0
  | [], _ :: _ => -1
  | _ :: _, [] => 1
  | a :: l, b :: m => if a.toNat < b.toNat then -1 else if b.toNat < a.toNat then 1 else cmpB l m
def place (k : Int) : Int := if k = 0 then 0 else if k = 3 then 1 else if k = 1 then 2 else 3
def cmpV (a b : Val) : Int := if place a.k < place b.k then -1 else if place b.k < place a.k then 1 else if a.k = 2 then cmpB a.s b.s else if a.n < b.n then -1 else if b.n < a.n then 1 else 0
def cmpR : List Val → List Val → Int
  | [], [] => 0
  | [], _ :: _ => -1
  | _ :: _, [] => 1
  | a :: l, b :: m => if cmpV a b = 0 then cmpR l m else cmpV a b
theorem cmpB_drop (a b : List UInt8) (i : Nat) (h1 : i < a.length) (h2 : i < b.length) : cmpB (a.drop i) (b.drop i) = if (a.getD i 0).toNat < (b.getD i 0).toNat then -1 else if (b.getD i 0).toNat < (a.getD i 0).toNat then 1 else cmpB (a.drop (i + 1)) (b.drop (i + 1)) := by
  rw [List.drop_eq_getElem_cons h1, List.drop_eq_getElem_cons h2]
  simp [cmpB, List.getD, h1, h2]
theorem cmpB_end (a b : List UInt8) (i : Nat) (h : i ≤ a.length) (h' : i ≤ b.length) (h2 : ¬ (i < a.length ∧ i < b.length)) : cmpB (a.drop i) (b.drop i) = if a.length < b.length then -1 else if b.length < a.length then 1 else 0 := by
  rcases Nat.lt_or_ge i a.length with h3 | h3
  · have h4 : b.length ≤ i := by omega
    rw [List.drop_eq_getElem_cons h3, List.drop_of_length_le h4, if_neg (by omega), if_pos (by omega)]
    rfl
  · rw [List.drop_of_length_le h3]
    rcases Nat.lt_or_ge i b.length with h4 | h4
    · rw [List.drop_eq_getElem_cons h4, if_pos (by omega)]; rfl
    · rw [List.drop_of_length_le h4, if_neg (by omega), if_neg (by omega)]; rfl
theorem cmpR_drop (a b : List Val) (i : Nat) (h1 : i < a.length) (h2 : i < b.length) : cmpR (a.drop i) (b.drop i) = if cmpV (a.getD i Val.zero) (b.getD i Val.zero) = 0 then cmpR (a.drop (i + 1)) (b.drop (i + 1)) else cmpV (a.getD i Val.zero) (b.getD i Val.zero) := by
  rw [List.drop_eq_getElem_cons h1, List.drop_eq_getElem_cons h2]
  simp [cmpR, List.getD, h1, h2]
theorem cmpR_end (a b : List Val) (i : Nat) (h : i ≤ a.length) (h' : i ≤ b.length) (h2 : ¬ (i < a.length ∧ i < b.length)) : cmpR (a.drop i) (b.drop i) = if a.length < b.length then -1 else if b.length < a.length then 1 else 0 := by
  rcases Nat.lt_or_ge i a.length with h3 | h3
  · have h4 : b.length ≤ i := by omega
    rw [List.drop_eq_getElem_cons h3, List.drop_of_length_le h4, if_neg (by omega), if_pos (by omega)]
    rfl
  · rw [List.drop_of_length_le h3]
    rcases Nat.lt_or_ge i b.length with h4 | h4
    · rw [List.drop_eq_getElem_cons h4, if_pos (by omega)]; rfl
    · rw [List.drop_of_length_le h4, if_neg (by omega), if_neg (by omega)]; rfl

/-- One element less of a slice. -/
def less1 : Value → Value
  | .slice A n c => .slice A (n - 1) c
  | v => v

/-! ### Which values may be -/
def may (v : Val) : Bool := if v.k = 0 then decide (v.n = 0) && decide (v.s = []) else if v.k = 1 then decide (v.s = []) else if v.k = 2 then decide (v.n = 0) && decide (v.s.length ≤ 64) else decide (v.k = 3) && (decide (v.s = []) && (decide (v.n = 0) || decide (v.n = 1)))
theorem may_bool {v : Val} (h : may v = true) (k : v.k = 3) : v.n = 0 ∨ v.n = 1 := by
  unfold may at h
  simp [k] at h
  exact h.2
theorem may_kind {v : Val} (h : may v = true) (h0 : ¬ v.k = 0) (h3 : ¬ v.k = 3) (h1 : ¬ v.k = 1) : v.k = 2 := by
  unfold may at h
  by_cases h2 : v.k = 2
  · exact h2
  · simp [h0, h1, h2, h3] at h
theorem may_text {v : Val} (h : may v = true) (k : v.k = 2) : v.s.length ≤ 64 := by
  unfold may at h
  simp [k] at h
  exact h.2
/-- The numbers are numbers of 64 bits. -/
def Val.ok (v : Val) : Prop := (-9223372036854775808 ≤ v.k ∧ v.k ≤ 9223372036854775807) ∧ (-9223372036854775808 ≤ v.n ∧ v.n ≤ 9223372036854775807)

/-! ### A value's bytes -/
def esc : List UInt8 → List UInt8
  | [] => []
  | c :: r => if c = 0 then 0 :: 255 :: esc r else c :: esc r
/-- The k lowest bytes of a number, the highest first. -/
def beN : Nat → Nat → List UInt8
  | 0, _ => []
  | k + 1, u => UInt8.ofNat (u / 256 ^ k) :: beN k u
def one (v : Val) : List UInt8 := if v.k = 3 then [UInt8.ofNat (2 + v.n).toNat] else if v.k = 1 then 4 :: beN 8 (up v.n) else if v.k = 2 then 5 :: (esc v.s ++ [0, 1]) else [1]
def enc : List Val → List UInt8
  | [] => []
  | v :: l => one v ++ enc l
def encR (l : List Val) : List UInt8 × Int := if 16 < l.length then ([], 1) else if l.all may then (if 140 < (enc l).length then ([], 51) else (enc l, 0)) else ([], 5)
theorem enc_append (l m : List Val) : enc (l ++ m) = enc l ++ enc m := by
  induction l with
  | nil => rfl
  | cons v l ih => simp [enc, ih]
theorem take_snocB (l : List UInt8) (k : Nat) (h : k < l.length) : l.take (k + 1) = l.take k ++ [l.getD k 0] := by
  rw [List.take_succ_eq_append_getElem h]; simp [List.getD, h]
theorem beN_length (k u : Nat) : (beN k u).length = k := by
  induction k with
  | zero => rfl
  | succ k ih => simp [beN, ih]
theorem esc_append (a b : List UInt8) : esc (a ++ b) = esc a ++ esc b := by
  induction a with
  | nil => rfl
  | cons c a ih => simp only [List.cons_append, esc]; split <;> simp [ih]
theorem beN_snoc (k u : Nat) (h : k < 8) : (beN 8 u).take (k + 1) = (beN 8 u).take k ++ [UInt8.ofNat (u / 256 ^ (7 - k))] := by
  match k, h with
  | 0, _ => rfl
  | 1, _ => rfl
  | 2, _ => rfl
  | 3, _ => rfl
  | 4, _ => rfl
  | 5, _ => rfl
  | 6, _ => rfl
  | 7, _ => rfl
theorem oneSet (u j : Nat) (hj : j < 8) : (bytesV (4 :: (List.replicate (8 - j) 0 ++ beN j u))).set (8 - j) (byteV (UInt8.ofNat (u / 256 ^ j % 256))) = bytesV (4 :: (List.replicate (8 - (j + 1)) 0 ++ beN (j + 1) u)) := by
  rw [bytesV_set]
  congr 1
  have e1 : 8 - j = (8 - (j + 1)) + 1 := by omega
  have e2 : UInt8.ofNat (u / 256 ^ j % 256) = UInt8.ofNat (u / 256 ^ j) := by
    apply UInt8.toNat_inj.1
    simp [UInt8.toNat_ofNat']
  rw [e1, List.set_cons_succ, List.replicate_succ', List.append_assoc, List.set_append_right _ _ (by simp)]
  simp [beN, e2]
theorem esc_snoc (s : List UInt8) (j : Nat) (h : j < s.length) : esc (s.take (j + 1)) = esc (s.take j) ++ (if s.getD j 0 = 0 then [0, 255] else [s.getD j 0]) := by
  rw [take_snocB s j h, esc_append]
  simp only [esc]
theorem one_pos (v : Val) : 0 < (one v).length := by
  unfold one; split
  · simp
  · split
    · simp
    · split <;> simp

theorem esc_len (s : List UInt8) : (esc s).length ≤ 2 * s.length := by
  induction s with
  | nil => simp [esc]
  | cons c s ih => simp only [esc]; split <;> simp <;> omega
theorem one_len {v : Val} (h : may v = true) : (one v).length ≤ 131 := by
  unfold one
  split
  · simp
  · split
    · simp [beN_length]
    · split
      · rename_i h2
        have := may_text h h2
        have := esc_len v.s
        simp; omega
      · simp
theorem enc_len (l : List Val) (h : ∀ v ∈ l, may v = true) : (enc l).length ≤ 131 * l.length := by
  induction l with
  | nil => simp [enc]
  | cons v l ih =>
    have h1 := one_len (h v List.mem_cons_self)
    have h2 := ih (fun u hu => h u (List.mem_cons_of_mem _ hu))
    simp only [enc, List.length_append, List.length_cons]; omega

theorem encR_len (l : List Val) : (encR l).1.length ≤ 140 := by
  unfold encR
  split
  · simp
  · split
    · split
      · simp
      · simp; omega
    · simp
/-- The key, or behind all that it begins. -/
def beyR (l : List Val) (b : Bool) : List UInt8 × Int := if (encR l).2 = 0 ∧ b = true then ((encR l).1 ++ [255], (encR l).2) else encR l

/-! ### Back -/
def unbe (l : List UInt8) : Nat := l.foldl (fun u b => u * 256 + b.toNat) 0
def decT : List UInt8 → List UInt8 → Option (List UInt8 × List UInt8)
  | _, [] => none
  | acc, [c] => if c = 0 then none else decT (acc ++ [c]) []
  | acc, c :: e :: r => if c = 0 then (if e = 1 then some (acc, r) else if e = 255 then decT (acc ++ [0]) r else none) else decT (acc ++ [c]) (e :: r)
/-- The value with which a text begins, and what is left. -/
def dec0 : List UInt8 → Option (Val × List UInt8)
  | [] => none
  | c :: r => if c = 1 then some (⟨0, 0, []⟩, r) else if c = 2 ∨ c = 3 then some (⟨3, (c.toNat : Int) - 2, []⟩, r) else if c = 4 then (if r.length < 8 then none else some (⟨1, (unbe (r.take 8) : Int) - 9223372036854775808, []⟩, r.drop 8))
    else if c = 5 then (match decT [] r with | some (t, r') => some (⟨2, 0, t⟩, r') | none => none) else none
def dec1 (s : List UInt8) : Option (Val × List UInt8) := match dec0 s with
  | some (v, r) => if v.s.length ≤ 64 then some (v, r) else none
  | none => none
/-- The row of a text: at most m values. -/
def decN (m : Nat) : Nat → List Val → List UInt8 → Option (List Val)
  | _, acc, [] => some acc
  | 0, _, _ :: _ => none
  | f + 1, acc, c :: r => match dec1 (c :: r) with
    | some (v, r') => if acc.length = m then none else decN m f (acc ++ [v]) r'
    | none => none
def decS (s : List UInt8) : Option (List Val) := if 140 < s.length then none else decN 16 s.length [] s
def firstV (s : List UInt8) : Val := match dec0 s with | some (v, _) => v | none => Val.zero
def firstN (s : List UInt8) : Nat := match dec0 s with | some (_, r) => s.length - r.length | none => 0

theorem decT_len : ∀ (s acc t r : List UInt8), decT acc s = some (t, r) → r.length < s.length ∧ ∃ k, r = s.drop k
  | [], acc, t, r, h => by simp [decT] at h
  | [c], acc, t, r, h => by
    unfold decT at h
    split at h
    · cases h
    · simp [decT] at h
  | c :: e :: s, acc, t, r, h => by
    unfold decT at h
    split at h
    · split at h
      · simp only [Option.some.injEq, Prod.mk.injEq] at h
        rw [← h.2]
        exact ⟨by simp; omega, 2, rfl⟩
      · split at h
        · obtain ⟨h1, k, h2⟩ := decT_len s _ t r h
          exact ⟨by simp; omega, k + 2, by simpa using h2⟩
        · cases h
    · obtain ⟨h1, k, h2⟩ := decT_len (e :: s) _ t r h
      exact ⟨by simp at h1 ⊢; omega, k + 1, by simpa using h2⟩
theorem dec0_len (s : List UInt8) (v : Val) (r : List UInt8) (h : dec0 s = some (v, r)) : r.length < s.length ∧ ∃ k, r = s.drop k := by
  cases s with
  | nil => simp [dec0] at h
  | cons c s =>
    simp only [dec0] at h
    split at h
    · simp only [Option.some.injEq, Prod.mk.injEq] at h
      rw [← h.2]; exact ⟨by simp, 1, rfl⟩
    · split at h
      · simp only [Option.some.injEq, Prod.mk.injEq] at h
        rw [← h.2]; exact ⟨by simp, 1, rfl⟩
      · split at h
        · split at h
          · cases h
          · simp only [Option.some.injEq, Prod.mk.injEq] at h
            rw [← h.2]; exact ⟨by simp; omega, 9, rfl⟩
        · split at h
          · split at h
            · rename_i t r' ht
              simp only [Option.some.injEq, Prod.mk.injEq] at h
              obtain ⟨h1, k, h2⟩ := decT_len _ _ _ _ ht
              rw [← h.2]
              exact ⟨by simp; omega, k + 1, by simpa using h2⟩
            · cases h
          · cases h
theorem dec1_len (s : List UInt8) (v : Val) (r : List UInt8) (h : dec1 s = some (v, r)) : r.length < s.length ∧ ∃ k, r = s.drop k := by
  unfold dec1 at h
  split at h
  · split at h
    · rename_i h0 _
      simp only [Option.some.injEq, Prod.mk.injEq] at h
      obtain ⟨rfl, rfl⟩ := h
      exact dec0_len s _ _ h0
    · cases h
  · cases h
theorem decN_fuel (m : Nat) : ∀ (f g : Nat) (acc : List Val) (s : List UInt8), s.length ≤ f → s.length ≤ g → decN m f acc s = decN m g acc s
  | f, g, acc, [], _, _ => by cases f <;> cases g <;> rfl
  | 0, _, _, _ :: _, h, _ => by simp at h
  | _ + 1, 0, _, _ :: _, _, h => by simp at h
  | f + 1, g + 1, acc, c :: r, h1, h2 => by
    unfold decN
    cases hd : dec1 (c :: r) with
    | none => rfl
    | some p =>
      obtain ⟨v, r'⟩ := p
      have := (dec1_len _ _ _ hd).1
      simp only
      split
      · rfl
      · exact decN_fuel m f g _ r' (by simp at h1 this ⊢; omega) (by simp at h2 this ⊢; omega)
/-- One value more. -/
theorem decN_step (m : Nat) (s : List UInt8) (at_ at' : Nat) (acc : List Val) (v : Val) (h : at_ < s.length) (hd : dec1 (s.drop at_) = some (v, s.drop at')) (hle : at' ≤ s.length) :
    decN m (s.length - at_) acc (s.drop at_) = if acc.length = m then none else decN m (s.length - at') (acc ++ [v]) (s.drop at') := by
  obtain ⟨c, r, hcr⟩ : ∃ c r, s.drop at_ = c :: r := ⟨_, _, List.drop_eq_getElem_cons h⟩
  have hl : (s.drop at_).length = s.length - at_ := List.length_drop
  have hlt := (dec1_len _ _ _ hd).1
  obtain ⟨f, hf⟩ : ∃ f, s.length - at_ = f + 1 := ⟨s.length - at_ - 1, by omega⟩
  rw [hf, hcr]
  rw [hcr] at hd
  conv => lhs; unfold decN
  rw [hd]
  simp only
  split
  · rfl
  · refine decN_fuel m _ _ _ _ ?_ ?_
    · simp at hlt ⊢; omega
    · simp
theorem decN_none (m : Nat) (s : List UInt8) (at_ : Nat) (acc : List Val) (h : at_ < s.length) (hd : dec1 (s.drop at_) = none) : decN m (s.length - at_) acc (s.drop at_) = none := by
  obtain ⟨c, r, hcr⟩ : ∃ c r, s.drop at_ = c :: r := ⟨_, _, List.drop_eq_getElem_cons h⟩
  obtain ⟨f, hf⟩ : ∃ f, s.length - at_ = f + 1 := ⟨s.length - at_ - 1, by omega⟩
  rw [hf, hcr]
  rw [hcr] at hd
  unfold decN
  rw [hd]
theorem decN_end (m : Nat) (s : List UInt8) (acc : List Val) : decN m (s.length - s.length) acc (s.drop s.length) = some acc := by
  rw [List.drop_length]
  cases (s.length - s.length) <;> rfl
theorem decN_ge (m : Nat) : ∀ (f : Nat) (acc : List Val) (s : List UInt8) (l : List Val), decN m f acc s = some l → acc.length ≤ l.length := by
  intro f
  induction f with
  | zero =>
    intro acc s l h
    cases s with
    | nil => simp [decN] at h; rw [h]; exact Nat.le_refl _
    | cons c r => simp [decN] at h
  | succ f ih =>
    intro acc s l h
    cases s with
    | nil => simp [decN] at h; rw [h]; exact Nat.le_refl _
    | cons c r =>
      unfold decN at h
      split at h
      · split at h
        · cases h
        · have := ih _ _ _ h; simp at this; omega
      · cases h
/-- Without a bound, and cut behind: the same as with it. -/
theorem decN_cut (M m : Nat) : ∀ (f : Nat) (acc : List Val) (s : List UInt8), acc.length ≤ m → acc.length + s.length ≤ M → decN m f acc s = (match decN (M + 1) f acc s with | some l => if m < l.length then none else some l | none => none) := by
  intro f
  induction f with
  | zero =>
    intro acc s h1 h2
    cases s with
    | nil => simp [decN]; omega
    | cons c r => simp [decN]
  | succ f ih =>
    intro acc s h1 h2
    cases s with
    | nil => simp [decN]; omega
    | cons c r =>
      unfold decN
      cases hd : dec1 (c :: r) with
      | none => rfl
      | some p =>
        obtain ⟨v, r'⟩ := p
        have hlt := (dec1_len _ _ _ hd).1
        simp only at hlt ⊢
        rw [if_neg (show ¬ acc.length = M + 1 by simp at h2; omega)]
        by_cases h3 : acc.length = m
        · rw [if_pos h3]
          cases hr : decN (M + 1) f (acc ++ [v]) r' with
          | none => rfl
          | some l =>
            have := decN_ge _ _ _ _ _ hr
            simp at this
            simp only
            rw [if_pos (by omega)]
        · rw [if_neg h3]
          exact ih (acc ++ [v]) r' (by simp; omega) (by simp at h2 hlt ⊢; omega)

theorem decT_drop (s acc : List UInt8) (i : Nat) (h : i < s.length) : decT acc (s.drop i) = if s.getD i 0 = 0 then (if i + 1 < s.length then (if s.getD (i + 1) 0 = 1 then some (acc, s.drop (i + 2)) else if s.getD (i + 1) 0 = 255 then decT (acc ++ [0]) (s.drop (i + 2)) else none) else none) else decT (acc ++ [s.getD i 0]) (s.drop (i + 1)) := by
  have e1 : s.drop i = s.getD i 0 :: s.drop (i + 1) := by rw [List.drop_eq_getElem_cons h]; simp [List.getD, h]
  rw [e1]
  rcases Nat.lt_or_ge (i + 1) s.length with h2 | h2
  · have e2 : s.drop (i + 1) = s.getD (i + 1) 0 :: s.drop (i + 2) := by rw [List.drop_eq_getElem_cons h2]; simp [List.getD, h2]
    rw [e2]
    conv => lhs; unfold decT
    rw [if_pos h2]
  · have e2 : s.drop (i + 1) = [] := List.drop_of_length_le h2
    rw [e2]
    conv => lhs; unfold decT
    rw [if_neg (show ¬ i + 1 < s.length by omega)]
theorem take1 (s : List UInt8) (i : Nat) (h : i + 1 ≤ s.length) : (s.drop i).take 1 = [s.getD i 0] := by
  rw [List.drop_eq_getElem_cons (show i < s.length by omega)]
  show [s[i]] = _
  simp [List.getD, show i < s.length by omega]
theorem drop_c (s : List UInt8) (i : Nat) (h : i < s.length) : s.drop i = s.getD i 0 :: s.drop (i + 1) := by
  rw [List.drop_eq_getElem_cons h]; simp [List.getD, h]
theorem dec1_1 (s : List UInt8) (i : Nat) (h : i < s.length) (hc : s.getD i 0 = 1) : dec1 (s.drop i) = some (⟨0, 0, []⟩, s.drop (i + 1)) := by
  rw [drop_c s i h, hc]; simp [dec1, dec0]
theorem dec1_23 (s : List UInt8) (i : Nat) (h : i < s.length) (hc : s.getD i 0 = 2 ∨ s.getD i 0 = 3) : dec1 (s.drop i) = some (⟨3, ((s.getD i 0).toNat : Int) - 2, []⟩, s.drop (i + 1)) := by
  rw [drop_c s i h]
  generalize s.getD i 0 = c at hc ⊢
  have h1 : ¬ c = 1 := by rintro rfl; revert hc; decide
  simp [dec1, dec0, h1, hc]
theorem dec1_4 (s : List UInt8) (i : Nat) (hc : s.getD i 0 = 4) (h : i + 1 + 8 ≤ s.length) : dec1 (s.drop i) = some (⟨1, (unbe ((s.drop (i + 1)).take 8) : Int) - 9223372036854775808, []⟩, s.drop (i + 1 + 8)) := by
  rw [drop_c s i (by omega), hc]
  have h1 : ¬ (s.drop (i + 1)).length < 8 := by simp; omega
  simp only [dec1, dec0, h1]
  simp
theorem dec1_4n (s : List UInt8) (i : Nat) (hi : i < s.length) (hc : s.getD i 0 = 4) (h : s.length < i + 1 + 8) : dec1 (s.drop i) = none := by
  rw [drop_c s i hi, hc]
  have h1 : (s.drop (i + 1)).length < 8 := by simp; omega
  simp only [dec1, dec0, h1]
  simp
theorem dec1_5 (s : List UInt8) (i : Nat) (hi : i < s.length) (hc : s.getD i 0 = 5) (t r : List UInt8) (h : decT [] (s.drop (i + 1)) = some (t, r)) : dec1 (s.drop i) = if t.length ≤ 64 then some (⟨2, 0, t⟩, r) else none := by
  rw [drop_c s i hi, hc]
  simp only [dec1, dec0, h]
  simp
theorem dec1_5n (s : List UInt8) (i : Nat) (hi : i < s.length) (hc : s.getD i 0 = 5) (h : decT [] (s.drop (i + 1)) = none) : dec1 (s.drop i) = none := by
  rw [drop_c s i hi, hc]
  simp only [dec1, dec0, h]
  simp
theorem dec1_0 (s : List UInt8) (i : Nat) (hi : i < s.length) (h1 : ¬ s.getD i 0 = 1) (h2 : ¬ (s.getD i 0 = 2 ∨ s.getD i 0 = 3)) (h4 : ¬ s.getD i 0 = 4) (h5 : ¬ s.getD i 0 = 5) : dec1 (s.drop i) = none := by
  rw [drop_c s i hi]
  simp only [dec1, dec0, h1, h2, h4, h5]
  simp
theorem unbe_snoc (t : List UInt8) (i : Nat) (h : i < t.length) : unbe (t.take (i + 1)) = unbe (t.take i) * 256 + (t.getD i 0).toNat := by
  rw [take_snocB t i h]; simp [unbe]
theorem unbe_lt (t : List UInt8) : unbe t < 256 ^ t.length := by
  have key : ∀ (t : List UInt8) (u k : Nat), u < 256 ^ k → t.foldl (fun u b => u * 256 + b.toNat) u < 256 ^ (k + t.length) := by
    intro t
    induction t with
    | nil => intro u k h; simpa using h
    | cons b t ih =>
      intro u k h
      have := b.toNat_lt
      have h1 := ih (u * 256 + b.toNat) (k + 1) (by rw [Nat.pow_succ]; omega)
      simp only [List.foldl_cons, List.length_cons]
      rw [show k + (t.length + 1) = k + 1 + t.length by omega]
      exact h1
  have := key t 0 0 (by simp)
  simpa [unbe] using this
theorem unbe_64 (t : List UInt8) (h : t.length ≤ 8) : unbe t < 18446744073709551616 :=
  Nat.lt_of_lt_of_le (unbe_lt t) (Nat.le_trans (Nat.pow_le_pow_right (by omega) h) (by decide))
theorem unbe_56 (t : List UInt8) (i : Nat) (h : i ≤ 7) : unbe (t.take i) < 2 ^ 56 :=
  Nat.lt_of_lt_of_le (unbe_lt _) (Nat.le_trans (Nat.pow_le_pow_right (j := 7) (by omega) (by simp; omega)) (by decide))
theorem wrap63 (u : Nat) (h : u < 18446744073709551616) : IntKind.i64.wrap (((u + 2 ^ 63) % 2 ^ 64 : Nat) : Int) = (u : Int) - 9223372036854775808 := by
  simp only [IntKind.wrap, IntKind.bits, IntKind.signed]
  simp
  omega
theorem tag_wrap (c : UInt8) (h : c = 2 ∨ c = 3) : IntKind.i64.wrap (IntKind.u8.wrap ((c.toNat : Int) - 2)) = (c.toNat : Int) - 2 := by
  rcases h with rfl | rfl <;> rfl
section ops
variable {m : Bool} {cx : Cx} {fs : Slots} {H : List Chunk} {Q : Post} {ops : Array Oper} {rest : List Oper} {g : Option (Nat × Bool)} {d : Nat} {ty : TypeId} {pos : String} {af : Array Edge}
theorem o_wideI {x : Operand} {t u : TypeId} {b : UInt8} {ds : TypeDesc} (hok : okS cx.n ops fs d g = true) (hx : ev fs x = some (byteV b)) (ht : cx.P.underlying t = some ds) (hu : cx.P.underlying u = some (.int .i64)) (k : TriX m cx ops ((d, .int .i64 (b.toNat : Int)) :: fs) H rest Q) :
    TriX m cx ops fs H (⟨some d, .convert t u x, ty, pos, af, g⟩ :: rest) Q :=
  o_conv hok hx ht hu (by
    have : Value.int .i64 (IntKind.i64.wrap (b.toNat : Int)) = .int .i64 (b.toNat : Int) := by
      have := b.toNat_lt
      simp only [IntKind.wrap, IntKind.bits, IntKind.signed]
      congr 1
      simp
      omega
    rw [this]; exact k)
theorem o_shlB {x y : Operand} {t yt : TypeId} {kj : IntKind} {u : Nat} (hok : okS cx.n ops fs d g = true) (hx : ev fs x = some (.int .u64 (u : Int))) (hy : ev fs y = some (.int kj 8)) (hu : u < 2 ^ 56) (k : TriX m cx ops ((d, .int .u64 ((u * 256 : Nat) : Int)) :: fs) H rest Q) :
    TriX m cx ops fs H (⟨some d, .binOp .shl t x y yt, ty, pos, af, g⟩ :: rest) Q :=
  o_shl hok hx hy (by decide) (by
    have : Value.int .u64 (IntKind.u64.wrap ((u : Int) * 2 ^ min (8 : Int).toNat IntKind.u64.bits)) = .int .u64 ((u * 256 : Nat) : Int) := by
      simp only [IntKind.wrap, IntKind.bits, IntKind.signed]
      congr 1
      simp
      omega
    rw [this]; exact k)
theorem o_wide64 {x : Operand} {t u : TypeId} {b : UInt8} {ds : TypeDesc} (hok : okS cx.n ops fs d g = true) (hx : ev fs x = some (byteV b)) (ht : cx.P.underlying t = some ds) (hu : cx.P.underlying u = some (.int .u64)) (k : TriX m cx ops ((d, .int .u64 (b.toNat : Int)) :: fs) H rest Q) :
    TriX m cx ops fs H (⟨some d, .convert t u x, ty, pos, af, g⟩ :: rest) Q :=
  o_conv hok hx ht hu (by
    have : Value.int .u64 (IntKind.u64.wrap (b.toNat : Int)) = .int .u64 (b.toNat : Int) := by
      have := b.toNat_lt
      simp only [IntKind.wrap, IntKind.bits, IntKind.signed]
      congr 1
      simp
      omega
    rw [this]; exact k)
theorem o_orB {x y : Operand} {t yt : TypeId} {u : Nat} {b : UInt8} (hok : okS cx.n ops fs d g = true) (hx : ev fs x = some (.int .u64 ((u * 256 : Nat) : Int))) (hy : ev fs y = some (.int .u64 (b.toNat : Int))) (hu : u < 2 ^ 56) (k : TriX m cx ops ((d, .int .u64 ((u * 256 + b.toNat : Nat) : Int)) :: fs) H rest Q) :
    TriX m cx ops fs H (⟨some d, .binOp .or t x y yt, ty, pos, af, g⟩ :: rest) Q :=
  o_or hok hx hy (by
    have hb := b.toNat_lt
    have e : ∀ n : Nat, n < 2 ^ 64 → (BitVec.ofInt IntKind.u64.bits (n : Int)).toNat = n := fun n hn => by
      rw [show IntKind.u64.bits = 64 from rfl, BitVec.ofInt_natCast, BitVec.toNat_ofNat, Nat.mod_eq_of_lt hn]
    have : Value.int .u64 (IntKind.u64.wrap ((BitVec.ofInt IntKind.u64.bits ((u * 256 : Nat) : Int) ||| BitVec.ofInt IntKind.u64.bits (b.toNat : Int)).toNat : Int)) = .int .u64 ((u * 256 + b.toNat : Nat) : Int) := by
      rw [BitVec.toNat_or, e _ (by omega), e _ (by omega), show u * 256 = 2 ^ 8 * u by omega, ← Nat.two_pow_add_eq_or_of_lt (by omega)]
      simp only [IntKind.wrap, IntKind.bits, IntKind.signed]
      congr 1
      simp
      omega
    rw [this]; exact k)
theorem o_xor63 {x y : Operand} {t yt : TypeId} {u : Nat} (hok : okS cx.n ops fs d g = true) (hx : ev fs x = some (.int .u64 (u : Int))) (hy : ev fs y = some (.int .u64 9223372036854775808)) (hu : u < 2 ^ 64) (k : TriX m cx ops ((d, .int .u64 (((u + 2 ^ 63) % 2 ^ 64 : Nat) : Int)) :: fs) H rest Q) :
    TriX m cx ops fs H (⟨some d, .binOp .xor t x y yt, ty, pos, af, g⟩ :: rest) Q :=
  o_xor hok hx hy (by
    have e1 : (BitVec.ofInt IntKind.u64.bits (u : Int)).toNat = u := by
      rw [show IntKind.u64.bits = 64 from rfl, BitVec.ofInt_natCast, BitVec.toNat_ofNat, Nat.mod_eq_of_lt hu]
    have e2 : (BitVec.ofInt IntKind.u64.bits 9223372036854775808).toNat = 2 ^ 63 := by decide
    have : Value.int .u64 (IntKind.u64.wrap ((BitVec.ofInt IntKind.u64.bits (u : Int) ^^^ BitVec.ofInt IntKind.u64.bits 9223372036854775808).toNat : Int)) = .int .u64 (((u + 2 ^ 63) % 2 ^ 64 : Nat) : Int) := by
      rw [BitVec.toNat_xor, e1, e2, flip63 u hu]
      generalize hz : (u + 2 ^ 63) % 2 ^ 64 = z
      have hzl : z < 18446744073709551616 := by rw [← hz]; exact Nat.mod_lt _ (by decide)
      have hzw : IntKind.u64.wrap (z : Int) = (z : Int) := by simp only [IntKind.wrap, IntKind.bits, IntKind.signed]; simp; omega
      rw [hzw]
    rw [this]; exact k)
end ops
theorem Sat.ne2 {cx : Cx} {c : Chunk} {g g' t t' : Nat} {cs cs' : List Value} {H : List Chunk} {w : World} (h : Sat cx (c :: box g t cs :: box g' t' cs' :: H) w) : g' ≠ g := fun e => by
  have h1 := (List.pairwise_cons.1 h.apart).2
  have h2 := (List.pairwise_cons.1 h1).1 (box g' t' cs') List.mem_cons_self g rfl
  exact h2 e.symm
theorem getD_drop (s : List UInt8) (i j : Nat) : (s.drop i).getD j 0 = s.getD (i + j) 0 := by simp [List.getD, List.getElem?_drop]
section ops
variable {m : Bool} {cx : Cx} {fs : Slots} {H : List Chunk} {Q : Post} {ops : Array Oper} {rest : List Oper} {g : Option (Nat × Bool)} {d : Nat} {ty : TypeId} {pos : String} {af : Array Edge}
theorem wrap_small (u : Nat) (h : u < 18446744073709551616) : IntKind.u64.wrap (u : Int) = (u : Int) := by
  simp only [IntKind.wrap, IntKind.bits, IntKind.signed]; simp; omega
theorem o_mulB {x y : Operand} {t yt : TypeId} {u : Nat} (hok : okS cx.n ops fs d g = true) (hx : ev fs x = some (.int .u64 (u : Int))) (hy : ev fs y = some (.int .u64 256)) (hu : u < 2 ^ 56) (k : TriX m cx ops ((d, .int .u64 ((u * 256 : Nat) : Int)) :: fs) H rest Q) :
    TriX m cx ops fs H (⟨some d, .binOp .mul t x y yt, ty, pos, af, g⟩ :: rest) Q :=
  o_mul hok hx hy (by
    have : Value.int .u64 (IntKind.u64.wrap ((u : Int) * 256)) = .int .u64 ((u * 256 : Nat) : Int) := by
      rw [show (u : Int) * 256 = ((u * 256 : Nat) : Int) by simp, wrap_small _ (by omega)]
    rw [this]; exact k)
theorem o_addB {x y : Operand} {t yt : TypeId} {u : Nat} {b : UInt8} (hok : okS cx.n ops fs d g = true) (hx : ev fs x = some (.int .u64 ((u * 256 : Nat) : Int))) (hy : ev fs y = some (.int .u64 (b.toNat : Int))) (hu : u < 2 ^ 56) (k : TriX m cx ops ((d, .int .u64 ((u * 256 + b.toNat : Nat) : Int)) :: fs) H rest Q) :
    TriX m cx ops fs H (⟨some d, .binOp .add t x y yt, ty, pos, af, g⟩ :: rest) Q :=
  o_add hok hx hy (by
    have hb := b.toNat_lt
    have : Value.int .u64 (IntKind.u64.wrap (((u * 256 : Nat) : Int) + (b.toNat : Int))) = .int .u64 ((u * 256 + b.toNat : Nat) : Int) := by
      rw [show ((u * 256 : Nat) : Int) + (b.toNat : Int) = ((u * 256 + b.toNat : Nat) : Int) by simp, wrap_small _ (by omega)]
    rw [this]; exact k)
theorem o_sub63 {x y : Operand} {t yt : TypeId} {u : Nat} (hok : okS cx.n ops fs d g = true) (hx : ev fs x = some (.int .u64 (u : Int))) (hy : ev fs y = some (.int .u64 9223372036854775808)) (hu : u < 18446744073709551616) (k : TriX m cx ops ((d, .int .u64 (((u + 2 ^ 63) % 2 ^ 64 : Nat) : Int)) :: fs) H rest Q) :
    TriX m cx ops fs H (⟨some d, .binOp .sub t x y yt, ty, pos, af, g⟩ :: rest) Q :=
  o_sub hok hx hy (by
    have : Value.int .u64 (IntKind.u64.wrap ((u : Int) - 9223372036854775808)) = .int .u64 (((u + 2 ^ 63) % 2 ^ 64 : Nat) : Int) := by
      simp only [IntKind.wrap, IntKind.bits, IntKind.signed]
      simp
      omega
    rw [this]; exact k)
end ops
theorem s_c (s : List UInt8) (hp : 0 < s.length) : s = s.getD 0 0 :: s.drop 1 := by
  have := drop_c s 0 hp
  simpa using this
theorem dec0_1 (s : List UInt8) (hp : 0 < s.length) (hc : s.getD 0 0 = 1) : dec0 s = some (⟨0, 0, []⟩, s.drop 1) := by
  conv => lhs; rw [s_c s hp, hc]
  simp [dec0]
theorem dec0_23 (s : List UInt8) (hp : 0 < s.length) (hc : s.getD 0 0 = 2 ∨ s.getD 0 0 = 3) : dec0 s = some (⟨3, ((s.getD 0 0).toNat : Int) - 2, []⟩, s.drop 1) := by
  conv => lhs; rw [s_c s hp]
  generalize s.getD 0 0 = c at hc ⊢
  have h1 : ¬ c = 1 := by rintro rfl; revert hc; decide
  simp [dec0, h1, hc]
theorem dec0_4 (s : List UInt8) (hc : s.getD 0 0 = 4) (h : 9 ≤ s.length) : dec0 s = some (⟨1, (unbe ((s.drop 1).take 8) : Int) - 9223372036854775808, []⟩, s.drop 9) := by
  conv => lhs; rw [s_c s (by omega), hc]
  have h1 : ¬ (s.drop 1).length < 8 := by simp; omega
  simp only [dec0, h1]
  simp
theorem dec0_n (s : List UInt8) (hp : 0 < s.length) (h1 : ¬ s.getD 0 0 = 1) (h2 : ¬ (s.getD 0 0 = 2 ∨ s.getD 0 0 = 3)) (h4 : s.getD 0 0 = 4 → s.length < 9) (h5 : s.getD 0 0 ≠ 5) : dec0 s = none := by
  conv => lhs; rw [s_c s hp]
  by_cases h : s.getD 0 0 = 4
  · have := h4 h
    have h8 : (s.drop 1).length < 8 := by simp; omega
    rw [h]
    simp only [dec0, h8]
    simp
  · simp only [dec0, h1, h2, h, h5]
    simp
theorem dec0_5 (s : List UInt8) (hp : 0 < s.length) (hc : s.getD 0 0 = 5) {t r : List UInt8} (h : decT [] (s.drop 1) = some (t, r)) : dec0 s = some (⟨2, 0, t⟩, r) := by
  conv => lhs; rw [s_c s hp, hc]
  simp only [dec0, h]
  simp
theorem dec0_5n (s : List UInt8) (hp : 0 < s.length) (hc : s.getD 0 0 = 5) (h : decT [] (s.drop 1) = none) : dec0 s = none := by
  conv => lhs; rw [s_c s hp, hc]
  simp only [dec0, h]
  simp
theorem wide_id (c : UInt8) : IntKind.i64.wrap (c.toNat : Int) = (c.toNat : Int) := by
  have := c.toNat_lt
  simp only [IntKind.wrap, IntKind.bits, IntKind.signed]; simp; omega
theorem decT_tlen : ∀ (s acc t r : List UInt8), decT acc s = some (t, r) → t.length ≤ acc.length + s.length
  | [], acc, t, r, h => by simp [decT] at h
  | [c], acc, t, r, h => by
    unfold decT at h
    split at h
    · cases h
    · simp [decT] at h
  | c :: e :: s, acc, t, r, h => by
    unfold decT at h
    split at h
    · split at h
      · simp only [Option.some.injEq, Prod.mk.injEq] at h
        rw [← h.1]; simp
      · split at h
        · have := decT_tlen s _ t r h
          simp at this ⊢; omega
        · cases h
    · have := decT_tlen (e :: s) _ t r h
      simp at this ⊢; omega
theorem dec0_may (s : List UInt8) (v : Val) (r : List UInt8) (h : dec0 s = some (v, r)) : may v = decide (v.s.length ≤ 64) ∧ v.s.length ≤ s.length := by
  cases s with
  | nil => simp [dec0] at h
  | cons c s =>
    simp only [dec0] at h
    split at h
    · simp only [Option.some.injEq, Prod.mk.injEq] at h
      rw [← h.1]; simp [may]
    · split at h
      · rename_i hc
        simp only [Option.some.injEq, Prod.mk.injEq] at h
        rw [← h.1]
        rcases hc with rfl | rfl <;> simp [may] <;> decide
      · split at h
        · split at h
          · cases h
          · simp only [Option.some.injEq, Prod.mk.injEq] at h
            rw [← h.1]; simp [may]
        · split at h
          · split at h
            · rename_i t r' ht
              simp only [Option.some.injEq, Prod.mk.injEq] at h
              have := decT_tlen _ _ _ _ ht
              rw [← h.1]
              simp [may] at this ⊢; omega
            · cases h
          · cases h
theorem firstV_len (s : List UInt8) : (firstV s).s.length ≤ s.length := by
  unfold firstV
  split
  · rename_i h; exact (dec0_may s _ _ h).2
  · simp [Val.zero]
theorem dec1_first_no (s : List UInt8) (h : firstN s = 0 ∨ may (firstV s) = false) : dec1 s = none := by
  unfold dec1
  cases hd : dec0 s with
  | none => rfl
  | some p =>
    obtain ⟨v, r⟩ := p
    have h1 := dec0_len s v r hd
    have h2 := dec0_may s v r hd
    simp only
    rcases h with h | h
    · simp [firstN, hd] at h; omega
    · simp only [firstV, hd] at h
      rw [if_neg (by rw [h2.1] at h; simpa using h)]
theorem dec1_first (s : List UInt8) (h1 : firstN s ≠ 0) (h2 : may (firstV s) = true) : dec1 s = some (firstV s, s.drop (firstN s)) ∧ firstN s ≤ s.length := by
  unfold dec1
  cases hd : dec0 s with
  | none => simp [firstN, hd] at h1
  | some p =>
    obtain ⟨v, r⟩ := p
    obtain ⟨h3, k, hk⟩ := dec0_len s v r hd
    have h4 := dec0_may s v r hd
    simp only [firstV, firstN, hd] at h2 ⊢
    rw [if_pos (by rw [h4.1] at h2; simpa using h2)]
    refine ⟨?_, by omega⟩
    congr 2
    have hr : r.length = s.length - k := by rw [hk]; simp
    rcases Nat.lt_or_ge s.length k with hks | hks
    · rw [List.drop_of_length_le (by omega : s.length ≤ k)] at hk
      rw [hk]; simp
    · have : s.length - r.length = k := by omega
      rw [this, ← hk]
theorem decS_cut (s : List UInt8) (h : s.length ≤ 140) : decS s = (match decN 141 s.length [] s with | some l => if 16 < l.length then none else some l | none => none) := by
  rw [decS, if_neg (by omega)]
  exact decN_cut 140 16 s.length [] s (by simp) (by simpa using h)
/-- What 'Decode' answers. -/
def DecR (s : List UInt8) (w : World) (e : Ending) (w' : World) : Prop := (decS s = none ∧ Pure w (.tuple #[.slice none 0 0, .int .i64 5]) e w') ∨ (∃ l, decS s = some l ∧ NewRowF (fun v => .tuple #[v, .int .i64 0]) w 28 3 l.length (valsV l) e w')
/-- What 'cutText' answers. -/
def CutT (s : List UInt8) (at_ : Nat) (j : Val × Bool × Nat) : Prop := j.2.2 ≤ s.length ∧ ((∃ t, decT [] (s.drop at_) = some (t, s.drop j.2.2) ∧ j.1 = ⟨2, 0, t⟩ ∧ j.2.1 = decide (t.length ≤ 64) ∧ at_ ≤ j.2.2) ∨ (decT [] (s.drop at_) = none ∧ j.2.1 = false))
/-- What 'cut' answers. -/
def CutV (s : List UInt8) (at_ : Nat) (j : Val × Bool × Nat) : Prop := j.2.2 ≤ s.length ∧ ((dec1 (s.drop at_) = some (j.1, s.drop j.2.2) ∧ j.2.1 = true ∧ at_ < j.2.2) ∨ (dec1 (s.drop at_) = none ∧ j.2.1 = false))
theorem decT_end (s acc : List UInt8) (i : Nat) (h : s.length ≤ i) : decT acc (s.drop i) = none := by
  rw [List.drop_of_length_le h]
  unfold decT
  rfl
end Go.WK
