/- Numbers of 32 bits in the walk; the sum as a function on bytes, and its laws. Plain: no program in sight. -/
import Derived.Test.YtijnbnlmmapgbaaWk6
namespace Go.WK
open Go.RowKit

def u32V (x : BitVec 32) : Value := .int .u32 (x.toNat : Int)
theorem wrap_u32 (x : BitVec 32) : IntKind.u32.wrap (x.toNat : Int) = (x.toNat : Int) := by
  have := x.isLt
  simp [IntKind.wrap, IntKind.bits, IntKind.signed]; omega
theorem ofInt_u32 (x : BitVec 32) : BitVec.ofInt 32 (x.toNat : Int) = x := by
  rw [BitVec.ofInt_natCast]; simp

section ops
variable {m : Bool} {cx : Cx} {fs : Slots} {H : List Chunk} {Q : Post} {ops : Array Oper} {rest : List Oper} {g : Option (Nat × Bool)} {d : Nat} {ty : TypeId} {pos : String} {af : Array Edge}
variable {x y : Operand} {t yt u : TypeId}
theorem o_xor32 (a b : BitVec 32) (hok : okS cx.n ops fs d g = true) (hx : ev fs x = some (u32V a)) (hy : ev fs y = some (u32V b)) (k : TriX m cx ops ((d, u32V (a ^^^ b)) :: fs) H rest Q) : TriX m cx ops fs H (⟨some d, .binOp .xor t x y yt, ty, pos, af, g⟩ :: rest) Q :=
  o_xor hok hx hy (by
    have : Value.int .u32 (IntKind.u32.wrap ((BitVec.ofInt IntKind.u32.bits (a.toNat : Int) ^^^ BitVec.ofInt IntKind.u32.bits (b.toNat : Int)).toNat : Int)) = u32V (a ^^^ b) := by
      simp only [IntKind.bits, ofInt_u32]; rw [wrap_u32]; rfl
    rw [this]; exact k)
theorem o_and32 (a b : BitVec 32) (hok : okS cx.n ops fs d g = true) (hx : ev fs x = some (u32V a)) (hy : ev fs y = some (u32V b)) (k : TriX m cx ops ((d, u32V (a &&& b)) :: fs) H rest Q) : TriX m cx ops fs H (⟨some d, .binOp .and t x y yt, ty, pos, af, g⟩ :: rest) Q :=
  o_and hok hx hy (by
    have : Value.int .u32 (IntKind.u32.wrap ((BitVec.ofInt IntKind.u32.bits (a.toNat : Int) &&& BitVec.ofInt IntKind.u32.bits (b.toNat : Int)).toNat : Int)) = u32V (a &&& b) := by
      simp only [IntKind.bits, ofInt_u32]; rw [wrap_u32]; rfl
    rw [this]; exact k)
theorem o_shr32 (a : BitVec 32) {kj : IntKind} {q : Int} (hok : okS cx.n ops fs d g = true) (hx : ev fs x = some (u32V a)) (hy : ev fs y = some (.int kj q)) (hq : 0 ≤ q) (k : TriX m cx ops ((d, u32V (a >>> q.toNat)) :: fs) H rest Q) : TriX m cx ops fs H (⟨some d, .binOp .shr t x y yt, ty, pos, af, g⟩ :: rest) Q :=
  o_shr hok hx hy hq (by
    have : Value.int .u32 ((a.toNat : Int).fdiv (2 ^ min q.toNat IntKind.u32.bits)) = u32V (a >>> q.toNat) := by
      unfold u32V
      rw [Int.fdiv_eq_ediv_of_nonneg _ (by apply Int.le_of_lt; apply Int.pow_pos; omega)]
      have h2 : ((a.toNat : Int) / 2 ^ min q.toNat IntKind.u32.bits) = ((a.toNat / 2 ^ min q.toNat 32 : Nat) : Int) := by simp [IntKind.bits]
      rw [h2, BitVec.toNat_ushiftRight, Nat.shiftRight_eq_div_pow]
      congr 2
      by_cases h : q.toNat ≤ 32
      · rw [Nat.min_eq_left h]
      · have h3 := a.isLt
        have h4 : (2:Nat) ^ 32 ≤ 2 ^ q.toNat := Nat.pow_le_pow_right (by omega) (by omega)
        rw [Nat.min_eq_right (by omega), Nat.div_eq_of_lt h3, Nat.div_eq_of_lt (by omega)]
    rw [this]; exact k)
theorem o_neg32 (a : BitVec 32) (hok : okS cx.n ops fs d g = true) (hx : ev fs x = some (u32V a)) (k : TriX m cx ops ((d, u32V (-a)) :: fs) H rest Q) : TriX m cx ops fs H (⟨some d, .unOp .neg t x, ty, pos, af, g⟩ :: rest) Q :=
  o_negI hok hx (by
    have : Value.int .u32 (IntKind.u32.wrap (0 - (a.toNat : Int))) = u32V (-a) := by
      have := a.isLt
      simp only [u32V, IntKind.wrap, IntKind.bits, IntKind.signed, BitVec.toNat_neg]
      congr 1
      simp
      omega
    rw [this]; exact k)
theorem o_not32 (a : BitVec 32) (hok : okS cx.n ops fs d g = true) (hx : ev fs x = some (u32V a)) (k : TriX m cx ops ((d, u32V (~~~ a)) :: fs) H rest Q) : TriX m cx ops fs H (⟨some d, .unOp .xor t x, ty, pos, af, g⟩ :: rest) Q :=
  o_xorI hok hx (by
    have : Value.int .u32 (IntKind.u32.wrap ((BitVec.ofInt IntKind.u32.bits (if IntKind.u32.signed then -1 else IntKind.u32.max) ^^^ BitVec.ofInt IntKind.u32.bits (a.toNat : Int)).toNat : Int)) = u32V (~~~ a) := by
      have h1 : (BitVec.ofInt 32 (if IntKind.u32.signed then -1 else IntKind.u32.max)) = BitVec.allOnes 32 := by decide
      simp only [IntKind.bits, ofInt_u32, h1, BitVec.allOnes_xor]; rw [wrap_u32]; rfl
    rw [this]; exact k)
/-- A byte made wide. -/
theorem o_wide32 (b : UInt8) (hok : okS cx.n ops fs d g = true) (hx : ev fs x = some (byteV b)) {ds : TypeDesc} (ht : cx.P.underlying t = some ds) (hu : cx.P.underlying u = some (.int .u32)) (k : TriX m cx ops ((d, u32V (BitVec.ofNat 32 b.toNat)) :: fs) H rest Q) :
    TriX m cx ops fs H (⟨some d, .convert t u x, ty, pos, af, g⟩ :: rest) Q :=
  o_conv hok hx ht hu (by
    have : Value.int .u32 (IntKind.u32.wrap (b.toNat : Int)) = u32V (BitVec.ofNat 32 b.toNat) := by
      have h := b.toNat_lt
      simp [u32V, IntKind.wrap, IntKind.bits, IntKind.signed, BitVec.toNat_ofNat]
      try omega
    rw [this]; exact k)
/-- The lowest byte of a number. -/
theorem o_low32 (a : BitVec 32) (hok : okS cx.n ops fs d g = true) (hx : ev fs x = some (u32V a)) {ds : TypeDesc} (ht : cx.P.underlying t = some ds) (hu : cx.P.underlying u = some (.int .u8)) (k : TriX m cx ops ((d, byteV (UInt8.ofNat a.toNat)) :: fs) H rest Q) :
    TriX m cx ops fs H (⟨some d, .convert t u x, ty, pos, af, g⟩ :: rest) Q :=
  o_conv hok hx ht hu (by
    have : Value.int .u8 (IntKind.u8.wrap (a.toNat : Int)) = byteV (UInt8.ofNat a.toNat) := by
      simp [byteV, IntKind.wrap, IntKind.bits, IntKind.signed]
    rw [this]; exact k)
theorem o_eql32 (a b : BitVec 32) (hok : okS cx.n ops fs d g = true) (hx : ev fs x = some (u32V a)) (hy : ev fs y = some (u32V b)) (k : TriX m cx ops ((d, .bool (decide (a = b))) :: fs) H rest Q) : TriX m cx ops fs H (⟨some d, .binOp .eql t x y yt, ty, pos, af, g⟩ :: rest) Q :=
  o_eqlI hok hx hy (by
    have : decide ((a.toNat : Int) = (b.toNat : Int)) = decide (a = b) := by
      apply decide_eq_decide.2
      constructor
      · intro h; exact BitVec.eq_of_toNat_eq (by omega)
      · intro h; rw [h]
    rw [this]; exact k)
theorem o_eqlU8 (a b : UInt8) (hok : okS cx.n ops fs d g = true) (hx : ev fs x = some (byteV a)) (hy : ev fs y = some (byteV b)) (k : TriX m cx ops ((d, .bool (decide (a = b))) :: fs) H rest Q) : TriX m cx ops fs H (⟨some d, .binOp .eql t x y yt, ty, pos, af, g⟩ :: rest) Q :=
  o_eqlI hok hx hy (by
    have : decide ((a.toNat : Int) = (b.toNat : Int)) = decide (a = b) := by
      apply decide_eq_decide.2
      constructor
      · intro h; exact UInt8.toNat_inj.1 (by omega)
      · intro h; rw [h]
    rw [this]; exact k)
theorem o_neqU8 (a b : UInt8) (hok : okS cx.n ops fs d g = true) (hx : ev fs x = some (byteV a)) (hy : ev fs y = some (byteV b)) (k : TriX m cx ops ((d, .bool (decide (a ≠ b))) :: fs) H rest Q) : TriX m cx ops fs H (⟨some d, .binOp .neq t x y yt, ty, pos, af, g⟩ :: rest) Q :=
  o_neqI hok hx hy (by
    have : decide ((a.toNat : Int) ≠ (b.toNat : Int)) = decide (a ≠ b) := by
      apply decide_eq_decide.2
      constructor
      · intro h e; exact h (by rw [e])
      · intro h e; exact h (UInt8.toNat_inj.1 (by omega))
    rw [this]; exact k)
theorem o_xorU8 (a b : UInt8) (hok : okS cx.n ops fs d g = true) (hx : ev fs x = some (byteV a)) (hy : ev fs y = some (byteV b)) (k : TriX m cx ops ((d, byteV (a ^^^ b)) :: fs) H rest Q) : TriX m cx ops fs H (⟨some d, .binOp .xor t x y yt, ty, pos, af, g⟩ :: rest) Q :=
  o_xor hok hx hy (by
    have : Value.int .u8 (IntKind.u8.wrap ((BitVec.ofInt IntKind.u8.bits (a.toNat : Int) ^^^ BitVec.ofInt IntKind.u8.bits (b.toNat : Int)).toNat : Int)) = byteV (a ^^^ b) := by
      have h1 := (a ^^^ b).toNat_lt
      have h2 : ∀ c : UInt8, BitVec.ofInt 8 (c.toNat : Int) = c.toBitVec := fun c => by rw [BitVec.ofInt_natCast]; simp
      have h3 : (BitVec.ofInt 8 (a.toNat : Int) ^^^ BitVec.ofInt 8 (b.toNat : Int)).toNat = (a ^^^ b).toNat := by rw [h2, h2]; rfl
      show Value.int .u8 (IntKind.u8.wrap ((BitVec.ofInt 8 (a.toNat : Int) ^^^ BitVec.ofInt 8 (b.toNat : Int)).toNat : Int)) = _
      rw [h3]
      simp only [byteV, IntKind.wrap, IntKind.bits, IntKind.signed]
      congr 1
      simp only [Bool.false_and, Bool.false_eq_true, if_false]
      omega
    rw [this]; exact k)
end ops
theorem rd_byte (l : List UInt8) {kk : Nat} (k : Nat) (h : kk = k) (hk : k < l.length) : (bytesV l)[kk]? = some (byteV (l.getD k 0)) := by subst h; exact bytesV_get l kk hk

/-! ### The sum -/
def bit1 (x : BitVec 32) : BitVec 32 := (x >>> 1) ^^^ (2197175160#32 &&& (-(x &&& 1#32)))
def bits : Nat → BitVec 32 → BitVec 32
  | 0, x => x
  | n + 1, x => bit1 (bits n x)
def byte1 (r : BitVec 32) (b : UInt8) : BitVec 32 := bits 8 (r ^^^ BitVec.ofNat 32 b.toNat)
def moreR (r : BitVec 32) (l : List UInt8) : BitVec 32 := l.foldl byte1 r
def more (s : BitVec 32) (l : List UInt8) : BitVec 32 := ~~~ (moreR (~~~ s) l)
theorem take_snoc (l : List UInt8) (k : Nat) (h : k < l.length) : l.take (k + 1) = l.take k ++ [l.getD k 0] := by
  rw [List.take_succ_eq_append_getElem h]; simp [List.getD, h]
theorem moreR_snoc (r : BitVec 32) (l : List UInt8) (k : Nat) (h : k < l.length) : moreR r (l.take (k + 1)) = byte1 (moreR r (l.take k)) (l.getD k 0) := by
  rw [take_snoc l k h]; simp [moreR]
theorem moreR_append (r : BitVec 32) (l m : List UInt8) : moreR r (l ++ m) = moreR (moreR r l) m := by simp [moreR]
theorem more_append (s : BitVec 32) (l m : List UInt8) : more s (l ++ m) = more (more s l) m := by simp [more, moreR_append]
/-- The document's step. -/
def bitR (x : BitVec 32) : BitVec 32 := if x.toNat % 2 = 1 then (x >>> 1) ^^^ 2197175160#32 else x >>> 1
theorem lsb_and (x : BitVec 32) : x &&& 1#32 = BitVec.ofNat 32 (x.toNat % 2) := by
  apply BitVec.eq_of_toNat_eq
  rw [BitVec.toNat_and, BitVec.toNat_ofNat]
  show x.toNat &&& 1 = _
  rw [Nat.and_one_is_mod]
  exact (Nat.mod_eq_of_lt (Nat.lt_of_lt_of_le (Nat.mod_lt _ (by omega)) (by decide))).symm
theorem bitR_eq (x : BitVec 32) : bitR x = bit1 x := by
  unfold bitR bit1
  rw [lsb_and]
  rcases Nat.mod_two_eq_zero_or_one x.toNat with h | h
  · rw [if_neg (by omega), h]; simp
  · rw [if_pos h, h]
    have : -(BitVec.ofNat 32 1) = BitVec.allOnes 32 := by decide
    rw [this]; simp
theorem xor_ones (s : BitVec 32) : s ^^^ BitVec.allOnes 32 = ~~~ s := by rw [BitVec.xor_allOnes]
theorem o_half32 {m : Bool} {cx : Cx} {fs : Slots} {H : List Chunk} {Q : Post} {ops : Array Oper} {rest : List Oper} {g : Option (Nat × Bool)} {d : Nat} {ty : TypeId} {pos : String} {af : Array Edge} {x y : Operand} {t yt : TypeId}
    (a : BitVec 32) (hok : okS cx.n ops fs d g = true) (hx : ev fs x = some (u32V a)) (hy : ev fs y = some (.int .u32 2)) (k : TriX m cx ops ((d, u32V (a >>> 1)) :: fs) H rest Q) : TriX m cx ops fs H (⟨some d, .binOp .quo t x y yt, ty, pos, af, g⟩ :: rest) Q :=
  o_quo hok hx hy (by decide) (by
    have : Value.int .u32 (IntKind.u32.wrap ((a.toNat : Int).tdiv 2)) = u32V (a >>> 1) := by
      have h := a.isLt
      simp only [u32V, BitVec.toNat_ushiftRight, Nat.shiftRight_eq_div_pow, IntKind.wrap, IntKind.bits, IntKind.signed]
      congr 1
      rw [Int.tdiv_eq_ediv_of_nonneg (by omega)]
      simp
      omega
    rw [this]; exact k)
theorem half_odd (x : BitVec 32) (h : (x.toNat : Int).tmod 2 = 1) : x >>> 1 ^^^ 2197175160#32 = bit1 x := by
  rw [← bitR_eq, bitR, if_pos]
  rw [Int.tmod_eq_emod_of_nonneg (by omega)] at h
  omega
theorem half_even (x : BitVec 32) (h : ¬ (x.toNat : Int).tmod 2 = 1) : x >>> 1 = bit1 x := by
  rw [← bitR_eq, bitR, if_neg]
  rw [Int.tmod_eq_emod_of_nonneg (by omega)] at h
  omega
/-- Four bytes of a number, the lowest first. -/
def le4 (s : BitVec 32) : List UInt8 := [UInt8.ofNat (s >>> 0).toNat, UInt8.ofNat (s >>> 8).toNat, UInt8.ofNat (s >>> 16).toNat, UInt8.ofNat (s >>> 24).toNat]
theorem le4_len (s : BitVec 32) : (le4 s).length = 4 := rfl
def sealed (l : List UInt8) : List UInt8 := l ++ le4 (more 0#32 l)
def openB (l : List UInt8) : Bool := decide (4 ≤ l.length) && decide (l.drop (l.length - 4) = le4 (more 0#32 (l.take (l.length - 4))))
theorem sealInit (l : List UInt8) (s : BitVec 32) (n : Nat) (hn : l.length = n) :
    List.take (min n (n + 4)) (bytesV l) ++ List.drop (min n (n + 4)) (madeCells (Value.cells (.int .u8 0)) ((n + 4) * 1)).toList = bytesV (l ++ (le4 s).take 0 ++ List.replicate (4 - 0) 0) := by
  have hm : min n (n + 4) = n := by omega
  rw [hm, bytesV_zeros, ← bytesV_take, ← bytesV_drop, ← bytesV_append, List.take_of_length_le (by omega)]
  have : (List.replicate ((n + 4) * 1) (0 : UInt8)).drop n = List.replicate 4 0 := by simp
  rw [this]; simp
theorem sealSet (l : List UInt8) (s : BitVec 32) (n j : Nat) (hn : l.length = n) (hj : j < 4) :
    (bytesV (l ++ (le4 s).take j ++ List.replicate (4 - j) 0)).set (n + j) (byteV (UInt8.ofNat (s >>> (8 * j)).toNat)) = bytesV (l ++ (le4 s).take (j + 1) ++ List.replicate (4 - (j + 1)) 0) := by
  rw [bytesV_set]
  congr 1
  have h1 : (l ++ (le4 s).take j).length = n + j := by simp [hn, le4_len]; omega
  rw [List.set_append_right _ _ (by omega), h1, Nat.sub_self]
  match j, hj with
  | 0, _ => simp [le4, List.replicate]
  | 1, _ => simp [le4, List.replicate]
  | 2, _ => simp [le4, List.replicate]
  | 3, _ => simp [le4, List.replicate]
theorem le4_get (s : BitVec 32) (j : Nat) (hj : j < 4) : (le4 s).getD j 0 = UInt8.ofNat (s >>> (8 * j)).toNat := by
  match j, hj with
  | 0, _ => rfl
  | 1, _ => rfl
  | 2, _ => rfl
  | 3, _ => rfl
theorem openB_all (l : List UInt8) (n : Nat) (hn : l.length = n + 4) (h : ∀ k, k < 4 → l.getD (n + k) 0 = (le4 (more 0#32 (l.take n))).getD k 0) : openB l = true := by
  have h0 : l.length - 4 = n := by omega
  unfold openB
  rw [h0]
  simp only [Bool.and_eq_true, decide_eq_true_eq]
  refine ⟨by omega, ?_⟩
  apply List.ext_getElem (by simp [le4_len]; omega)
  intro k h1 h2
  rw [le4_len] at h2
  have := h k h2
  simp only [List.getD_eq_getElem?_getD] at this
  rw [List.getElem?_eq_getElem (by omega), List.getElem?_eq_getElem (by rw [le4_len]; omega)] at this
  simpa using this
theorem openB_not (l : List UInt8) (n k : Nat) (hn : l.length = n + 4) (hk : k < 4) (h : l.getD (n + k) 0 ≠ UInt8.ofNat (more 0#32 (l.take n) >>> (8 * k)).toNat) : openB l = false := by
  have h0 : l.length - 4 = n := by omega
  cases hb : openB l with
  | false => rfl
  | true =>
    exfalso
    unfold openB at hb
    rw [h0] at hb
    simp only [Bool.and_eq_true, decide_eq_true_eq] at hb
    apply h
    rw [← le4_get _ k hk, ← hb.2]
    simp [List.getD]
theorem openB_short (l : List UInt8) (h : l.length < 4) : openB l = false := by
  unfold openB
  have : ¬ 4 ≤ l.length := by omega
  simp [this]
theorem openB_sealed (l : List UInt8) : openB (sealed l) = true := by
  have h : (sealed l).length = l.length + 4 := by simp [sealed, le4_len]
  refine openB_all (sealed l) l.length h (fun k hk => ?_)
  have e : (sealed l).take l.length = l := by simp [sealed]
  rw [e]
  simp [sealed, List.getD, List.getElem?_append_right]
def OpenR (w : World) (l : List UInt8) (e : Ending) (w' : World) : Prop :=
  (openB l = true ∧ NewRowF (fun v => .tuple #[v, .bool true]) w 5 1 (l.length - 4) (bytesV (l.take (l.length - 4))) e w') ∨ (openB l = false ∧ Pure w (.tuple #[.slice none 0 0, .bool false]) e w')
theorem cut_all (l : List UInt8) (n m : Nat) (hn : l.length = m) (h : n ≤ m) : List.take (min m n) (bytesV l) ++ List.drop (min m n) (madeCells (Value.cells (.int .u8 0)) (n * 1)).toList = bytesV (l.take n) := by
  have hm : min m n = n := by omega
  rw [hm, bytesV_zeros, ← bytesV_take, List.drop_of_length_le (by rw [bytesV_length]; simp), List.append_nil]
end Go.WK
