/- Values: comparisons, the logic of three truths, sums and products, as plain functions; and their laws. No program in sight. -/
import Derived.Test.YtgogkkkacpacgaaDoorKeys2
namespace Go.WK
open Go.RowKit

def truth (b : Bool) : Val := ⟨3, if b then 1 else 0, []⟩
def inR (z : Int) : Bool := decide (-9223372036854775808 ≤ z) && decide (z ≤ 9223372036854775807)
def cmpE (a b : Val) : Int × Int := if (may a && may b) = true then (cmpV a b, 0) else (0, 5)
def held (p : Int → Bool) (a b : Val) : Val × Int := if (may a && may b) = true then (if a.k = 0 ∨ b.k = 0 then (Val.zero, 0) else if a.k = b.k then (truth (p (cmpV a b)), 0) else (Val.zero, 30)) else (Val.zero, 5)
def allE (k : Int) (l : List Val) : Int := if l.all may = true then (if (l.all fun v => decide (v.k = 0) || decide (v.k = k)) = true then 0 else 30) else 5
def andV (a b : Val) : Val × Int := if allE 3 [a, b] = 0 then (if a = truth false ∨ b = truth false then (truth false, 0) else if a.k = 0 ∨ b.k = 0 then (Val.zero, 0) else (truth true, 0)) else (Val.zero, allE 3 [a, b])
def orV (a b : Val) : Val × Int := if allE 3 [a, b] = 0 then (if a = truth true ∨ b = truth true then (truth true, 0) else if a.k = 0 ∨ b.k = 0 then (Val.zero, 0) else (truth false, 0)) else (Val.zero, allE 3 [a, b])
def notV (a : Val) : Val × Int := if allE 3 [a] ≠ 0 ∨ a.k = 0 then (Val.zero, allE 3 [a]) else (truth (decide (a.n = 0)), 0)
def reck (f : Int → Int → Int × Bool) (a b : Val) : Val × Int := if allE 1 [a, b] ≠ 0 ∨ a.k = 0 ∨ b.k = 0 then (Val.zero, allE 1 [a, b]) else if (f a.n b.n).2 = true then (⟨1, (f a.n b.n).1, []⟩, 0) else (Val.zero, 31)
def reckZ (f : Int → Int → Int × Bool) (a b : Val) : Val × Int := if allE 1 [a, b] = 0 ∧ a.k ≠ 0 ∧ b.k ≠ 0 ∧ b.n = 0 then (Val.zero, 32) else reck f a b
def ex (z : Int) : Int × Bool := (IntKind.i64.wrap z, inR z)
def addF (x y : Int) : Int × Bool := ex (x + y)
def subF (x y : Int) : Int × Bool := ex (x - y)
def mulF (x y : Int) : Int × Bool := ex (x * y)
def divF (x y : Int) : Int × Bool := ex (x.tdiv y)
def modF (x y : Int) : Int × Bool := ex (x.tmod y)
def joinV (a b : Val) : Val × Int := if allE 2 [a, b] ≠ 0 ∨ a.k = 0 ∨ b.k = 0 then (Val.zero, allE 2 [a, b]) else if 64 < a.s.length + b.s.length then (Val.zero, 3) else (⟨2, 0, a.s ++ b.s⟩, 0)
abbrev resV (r : Val × Int) : Value := .tuple #[aggV r.1, .int .i64 r.2]
abbrev resF (r : Int × Bool) : Value := .tuple #[.int .i64 r.1, .bool r.2]

theorem inR_iff {z : Int} : inR z = true ↔ -9223372036854775808 ≤ z ∧ z ≤ 9223372036854775807 := by simp [inR]
theorem wrap_of {z : Int} (h : inR z = true) : IntKind.i64.wrap z = z := wrap_in (inR_iff.1 h)
theorem wrap_eq (z : Int) : ∃ k, IntKind.i64.wrap z = z + k * 18446744073709551616 ∧ -9223372036854775808 ≤ IntKind.i64.wrap z ∧ IntKind.i64.wrap z ≤ 9223372036854775807 := by
  have h : IntKind.i64.wrap z = if z % 18446744073709551616 < 9223372036854775808 then z % 18446744073709551616 else z % 18446744073709551616 - 18446744073709551616 := by
    have h0 : IntKind.i64.wrap z = if (true && decide (z % 18446744073709551616 ≥ 9223372036854775808)) = true then z % 18446744073709551616 - 18446744073709551616 else z % 18446744073709551616 := rfl
    rw [h0]
    by_cases h : z % 18446744073709551616 < 9223372036854775808
    · rw [if_pos h, if_neg (by simp; omega)]
    · rw [if_neg h, if_pos (by simp; omega)]
  rw [h]
  split
  · exact ⟨-(z / 18446744073709551616), by omega, by omega, by omega⟩
  · exact ⟨-(z / 18446744073709551616) - 1, by omega, by omega, by omega⟩
theorem reck_congr {f g : Int → Int → Int × Bool} {a b : Val} (h : (f a.n b.n).2 = (g a.n b.n).2 ∧ ((f a.n b.n).2 = true → (f a.n b.n).1 = (g a.n b.n).1)) : reck f a b = reck g a b := by
  unfold reck
  rw [h.1]
  split
  · rfl
  · by_cases h2 : (g a.n b.n).2 = true
    · rw [if_pos h2, if_pos h2, h.2 (h.1.trans h2)]
    · rw [if_neg h2, if_neg h2]
section ops
variable {m : Bool} {cx : Cx} {fs : Slots} {H : List Chunk} {Q : Post} {ops : Array Oper} {rest : List Oper} {g : Option (Nat × Bool)} {d : Nat} {ty : TypeId} {pos : String} {af : Array Edge}
theorem o_quoU {x y : Operand} {t yt : TypeId} (u v : Nat) (hok : okS cx.n ops fs d g = true) (hx : ev fs x = some (.int .u64 (u : Int))) (hy : ev fs y = some (.int .u64 (v : Int))) (hu : u < 18446744073709551616) (hv : v ≠ 0) (k : TriX m cx ops ((d, .int .u64 ((u / v : Nat) : Int)) :: fs) H rest Q) :
    TriX m cx ops fs H (⟨some d, .binOp .quo t x y yt, ty, pos, af, g⟩ :: rest) Q :=
  o_quo hok hx hy (by omega) (by
    have h1 : u / v ≤ u := Nat.div_le_self _ _
    have e : (u : Int).tdiv (v : Int) = ((u / v : Nat) : Int) := rfl
    have e2 : IntKind.u64.wrap ((u : Int).tdiv (v : Int)) = ((u / v : Nat) : Int) := by
      rw [e, IntKind.wrap_u64]
      exact Int.emod_eq_of_lt (Int.natCast_nonneg _) (Int.ofNat_lt.2 (Nat.lt_of_le_of_lt h1 hu))
    rw [e2]; exact k)
theorem o_remU {x y : Operand} {t yt : TypeId} (u v : Nat) (hok : okS cx.n ops fs d g = true) (hx : ev fs x = some (.int .u64 (u : Int))) (hy : ev fs y = some (.int .u64 (v : Int))) (hv : v ≠ 0) (k : TriX m cx ops ((d, .int .u64 ((u % v : Nat) : Int)) :: fs) H rest Q) :
    TriX m cx ops fs H (⟨some d, .binOp .rem t x y yt, ty, pos, af, g⟩ :: rest) Q :=
  o_rem hok hx hy (by omega) (by
    have e : (u : Int).tmod (v : Int) = ((u % v : Nat) : Int) := rfl
    rw [e]; exact k)
end ops
end Go.WK
