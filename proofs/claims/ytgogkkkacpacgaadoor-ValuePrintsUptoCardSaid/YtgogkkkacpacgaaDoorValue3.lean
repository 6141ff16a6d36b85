/- Values: sums, products, quotients in 64 bits as the program and the document reckon them; the laws of the three truths and of whole numbers. Plain: no program in sight. -/
import Derived.Test.YtgogkkkacpacgaaDoorValue2
namespace Go.WK
open Go.RowKit

/-! ### How overflow is seen -/
theorem natAbs_td (x y : Int) : (x.tdiv y).natAbs = x.natAbs / y.natAbs := Int.natAbs_tdiv x y
theorem natAbs_tm (x y : Int) : (x.tmod y).natAbs = x.natAbs % y.natAbs := Int.natAbs_tmod x y
theorem addOk {x y : Int} (hx : inR x = true) (hy : inR y = true) : ((decide (x < 0) != decide (y < 0)) || (decide (IntKind.i64.wrap (x + y) < 0) == decide (x < 0))) = inR (x + y) := by
  obtain ⟨k, h, lo, hi⟩ := wrap_eq (x + y)
  obtain ⟨x1, x2⟩ := inR_iff.1 hx
  obtain ⟨y1, y2⟩ := inR_iff.1 hy
  generalize IntKind.i64.wrap (x + y) = z at *
  rw [Bool.eq_iff_iff, inR_iff]
  simp only [Bool.or_eq_true, bne_iff_ne, ne_eq, decide_eq_decide, beq_iff_eq]
  omega
theorem subOk {x y : Int} (hx : inR x = true) (hy : inR y = true) : ((decide (x < 0) == decide (y < 0)) || (decide (IntKind.i64.wrap (x - y) < 0) == decide (x < 0))) = inR (x - y) := by
  obtain ⟨k, h, lo, hi⟩ := wrap_eq (x - y)
  obtain ⟨x1, x2⟩ := inR_iff.1 hx
  obtain ⟨y1, y2⟩ := inR_iff.1 hy
  generalize IntKind.i64.wrap (x - y) = z at *
  rw [Bool.eq_iff_iff, inR_iff]
  simp only [Bool.or_eq_true, beq_iff_eq, decide_eq_decide]
  omega
theorem mulOk {x y : Int} (hx : inR x = true) (hy : inR y = true) (x0 : x ≠ 0) (y0 : y ≠ 0) :
    (¬ (x = -1 ∧ y = -9223372036854775808 ∨ y = -1 ∧ x = -9223372036854775808) ∧ IntKind.i64.wrap ((IntKind.i64.wrap (x * y)).tdiv y) = x) ↔ inR (x * y) = true := by
  obtain ⟨x1, x2⟩ := inR_iff.1 hx
  obtain ⟨y1, y2⟩ := inR_iff.1 hy
  constructor
  · rintro ⟨hs, hq⟩
    obtain ⟨k, h, lo, hi⟩ := wrap_eq (x * y)
    generalize hz : IntKind.i64.wrap (x * y) = z at *
    have hqa := natAbs_td z y
    have hra := natAbs_tm z y
    have hdm := Int.mul_tdiv_add_tmod z y
    have h1 : z.natAbs / y.natAbs ≤ z.natAbs := Nat.div_le_self _ _
    have h2 : z.natAbs % y.natAbs < y.natAbs := Nat.mod_lt _ (by omega)
    have hqx : z.tdiv y = x := by
      by_cases hin : inR (z.tdiv y) = true
      · rw [wrap_of hin] at hq; exact hq
      · exfalso
        have hn : ¬ (-9223372036854775808 ≤ z.tdiv y ∧ z.tdiv y ≤ 9223372036854775807) := fun e => hin (inR_iff.2 e)
        have hbig : (z.tdiv y).natAbs = 9223372036854775808 := by omega
        have hzn : z.natAbs = 9223372036854775808 := by omega
        have hyn : y.natAbs = 1 := by
          rcases Nat.lt_or_ge y.natAbs 2 with h3 | h3
          · omega
          · have : z.natAbs / y.natAbs ≤ z.natAbs / 2 := Nat.div_le_div_left h3 (by omega)
            omega
        have hzl : z = -9223372036854775808 := by omega
        have hym : y = -1 := by
          rcases Int.natAbs_eq y with h4 | h4 <;> rw [hyn] at h4
          · exfalso
            have : y = 1 := by simpa using h4
            subst this
            rw [Int.tdiv_one] at hbig hn
            omega
          · simpa using h4
        subst hym
        subst hzl
        have : (-9223372036854775808 : Int).tdiv (-1) = 9223372036854775808 := by decide
        rw [this] at hq
        have hw : IntKind.i64.wrap 9223372036854775808 = -9223372036854775808 := by decide
        rw [hw] at hq
        exact hs (.inr ⟨rfl, hq.symm⟩)
    rw [hqx, Int.mul_comm y x] at hdm
    have : k = 0 := by omega
    subst this
    rw [inR_iff]; omega
  · intro hin
    obtain ⟨p1, p2⟩ := inR_iff.1 hin
    refine ⟨?_, ?_⟩
    · rintro (⟨rfl, rfl⟩ | ⟨rfl, rfl⟩) <;> omega
    · rw [wrap_of hin, Int.mul_tdiv_cancel _ y0, wrap_of hx]
theorem tdiv_in {x y : Int} (hx : inR x = true) (hy : inR y = true) (y0 : y ≠ 0) : inR (x.tdiv y) = !(decide (x = -9223372036854775808) && decide (y = -1)) := by
  obtain ⟨x1, x2⟩ := inR_iff.1 hx
  by_cases hs : x = -9223372036854775808 ∧ y = -1
  · obtain ⟨rfl, rfl⟩ := hs
    decide
  · have hf : (!(decide (x = -9223372036854775808) && decide (y = -1))) = true := by
      simp only [Bool.not_eq_true', Bool.and_eq_false_iff, decide_eq_false_iff_not]
      omega
    rw [hf, inR_iff]
    have hqa := natAbs_td x y
    have h1 : x.natAbs / y.natAbs ≤ x.natAbs := Nat.div_le_self _ _
    by_cases hx' : x = -9223372036854775808
    · subst hx'
      have hy1 : y ≠ -1 := fun e => hs ⟨rfl, e⟩
      by_cases hy2 : y = 1
      · subst hy2; rw [Int.tdiv_one]; omega
      · have h3 : (-9223372036854775808 : Int).natAbs / y.natAbs ≤ (-9223372036854775808 : Int).natAbs / 2 := Nat.div_le_div_left (show 2 ≤ y.natAbs by omega) (by omega)
        have h4 : (-9223372036854775808 : Int).natAbs / 2 = 4611686018427387904 := by decide
        omega
    · omega
theorem tmod_in {x y : Int} (hx : inR x = true) (y0 : y ≠ 0) : inR (x.tmod y) = true := by
  obtain ⟨x1, x2⟩ := inR_iff.1 hx
  have h := natAbs_tm x y
  have h1 : x.natAbs % y.natAbs ≤ x.natAbs := Nat.mod_le _ _
  have h2 : 0 ≤ x → 0 ≤ x.tmod y := fun h => Int.tmod_nonneg y h
  have h3 : x ≤ 0 → x.tmod y ≤ 0 := fun h => by
    have := Int.tmod_nonneg y (show 0 ≤ -x by omega)
    rw [Int.neg_tmod] at this
    omega
  rw [inR_iff]
  omega

/-! ### The document's way -/
def sizeN (n : Int) : Nat := n.natAbs
def sgF (u : Nat) (below : Bool) : Int × Bool := if below = true then (IntKind.i64.wrap (-(u : Int)), decide (u ≤ 9223372036854775808)) else (IntKind.i64.wrap (u : Int), decide (u < 9223372036854775808))
def sumF (x y : Int) : Int × Bool := if 0 < y ∧ 9223372036854775807 - y < x ∨ y < 0 ∧ x < -9223372036854775808 - y then (0, false) else (IntKind.i64.wrap (x + y), true)
def exF (which : Int) (x y : Int) : Int × Bool :=
  if which = 0 then sumF x y else if which = 1 then (if y = -9223372036854775808 then (IntKind.i64.wrap (x + 9223372036854775808), decide (x < 0)) else sumF x (-y))
  else if which = 2 then ((sgF ((x.natAbs * y.natAbs) % 18446744073709551616) ((decide (x < 0) != decide (y < 0)) && decide (0 < (x.natAbs * y.natAbs) % 18446744073709551616))).1,
    (sgF ((x.natAbs * y.natAbs) % 18446744073709551616) ((decide (x < 0) != decide (y < 0)) && decide (0 < (x.natAbs * y.natAbs) % 18446744073709551616))).2 && decide ((x.natAbs * y.natAbs) / 18446744073709551616 = 0))
  else if which = 3 then sgF (x.natAbs / y.natAbs) ((decide (x < 0) != decide (y < 0)) && decide (0 < x.natAbs / y.natAbs))
  else sgF (x.natAbs % y.natAbs) (decide (x < 0) && decide (0 < x.natAbs % y.natAbs))
def Same (f g : Int × Bool) : Prop := f.2 = g.2 ∧ (f.2 = true → f.1 = g.1)
theorem sumF_ok {x y : Int} (hx : inR x = true) (hy : inR y = true) : Same (sumF x y) (ex (x + y)) := by
  obtain ⟨x1, x2⟩ := inR_iff.1 hx
  obtain ⟨y1, y2⟩ := inR_iff.1 hy
  unfold sumF
  split
  · rename_i h
    refine ⟨?_, fun e => by cases e⟩
    have : ¬ inR (x + y) = true := fun e => by have := inR_iff.1 e; omega
    simp only [ex, Bool.not_eq_true] at this ⊢
    exact this.symm
  · rename_i h
    have : inR (x + y) = true := inR_iff.2 (by omega)
    exact ⟨this.symm, fun _ => rfl⟩
theorem sg_ok {u : Nat} {b : Bool} {z : Int} (h : z = if b = true then -(u : Int) else (u : Int)) : Same (sgF u b) (ex z) := by
  subst h
  cases b
  · refine ⟨?_, fun _ => ?_⟩
    · simp only [sgF, ex, Bool.false_eq_true, if_false]
      rw [Bool.eq_iff_iff, inR_iff, decide_eq_true_iff]
      omega
    · simp [sgF, ex]
  · refine ⟨?_, fun _ => ?_⟩
    · simp only [sgF, ex, if_true]
      rw [Bool.eq_iff_iff, inR_iff, decide_eq_true_iff]
      omega
    · simp [sgF, ex]
theorem natAbs_sign {z : Int} {b : Bool} (hb : z ≠ 0 → b = decide (z < 0)) : z = if (b && decide (0 < z.natAbs)) = true then -(z.natAbs : Int) else (z.natAbs : Int) := by
  by_cases h0 : z = 0
  · subst h0; simp
  · rw [hb h0]
    have : decide (0 < z.natAbs) = true := by simp; omega
    rw [this, Bool.and_true]
    by_cases h : z < 0
    · rw [if_pos (by simpa using h)]; omega
    · rw [if_neg (by simpa using h)]; omega
theorem mul_neg_iff {x y : Int} (h : x * y ≠ 0) : (decide (x < 0) != decide (y < 0)) = decide (x * y < 0) := by
  have hx : x ≠ 0 := fun e => h (by simp [e])
  have hy : y ≠ 0 := fun e => h (by simp [e])
  rcases Int.lt_or_gt_of_ne hx with h1 | h1 <;> rcases Int.lt_or_gt_of_ne hy with h2 | h2
  · have := Int.mul_pos_of_neg_of_neg h1 h2
    simp [h1, h2]; omega
  · have := Int.mul_neg_of_neg_of_pos h1 h2
    simp [h1, this]; omega
  · have := Int.mul_neg_of_pos_of_neg h1 h2
    simp [h2, this]; omega
  · have := Int.mul_pos h1 h2
    have a1 : ¬ x < 0 := by omega
    have a2 : ¬ y < 0 := by omega
    have a3 : ¬ x * y < 0 := by omega
    simp [a1, a2, a3]
theorem tdiv_neg_iff {x y : Int} (h : x.tdiv y ≠ 0) : (decide (x < 0) != decide (y < 0)) = decide (x.tdiv y < 0) := by
  have hm := natAbs_td x y
  rcases (show x < 0 ∨ 0 ≤ x by omega) with h1 | h1 <;> rcases (show y < 0 ∨ 0 ≤ y by omega) with h2 | h2
  · have := Int.tdiv_nonneg_of_nonpos_of_nonpos (Int.le_of_lt h1) (Int.le_of_lt h2)
    have a3 : ¬ x.tdiv y < 0 := by omega
    simp [h1, h2, a3]
  · have h3 : x.tdiv y ≤ 0 := by
      have := Int.tdiv_nonneg (show 0 ≤ -x by omega) h2
      rw [Int.neg_tdiv] at this
      omega
    have a3 : x.tdiv y < 0 := by omega
    have a2 : ¬ y < 0 := by omega
    simp [h1, a2, a3]
  · have h3 : x.tdiv y ≤ 0 := Int.tdiv_nonpos_of_nonneg_of_nonpos h1 (Int.le_of_lt h2)
    have a3 : x.tdiv y < 0 := by omega
    have a1 : ¬ x < 0 := by omega
    simp [h2, a1, a3]
  · have := Int.tdiv_nonneg h1 h2
    have a3 : ¬ x.tdiv y < 0 := by omega
    have a1 : ¬ x < 0 := by omega
    have a2 : ¬ y < 0 := by omega
    simp [a1, a2, a3]
theorem exF_ok {which x y : Int} (hw : 0 ≤ which ∧ which ≤ 4) (hx : inR x = true) (hy : inR y = true) (y0 : 2 < which → y ≠ 0) :
    Same (exF which x y) (if which = 0 then addF x y else if which = 1 then subF x y else if which = 2 then mulF x y else if which = 3 then divF x y else modF x y) := by
  obtain ⟨x1, x2⟩ := inR_iff.1 hx
  obtain ⟨y1, y2⟩ := inR_iff.1 hy
  unfold exF
  by_cases w0 : which = 0
  · rw [if_pos w0, if_pos w0]; exact sumF_ok hx hy
  rw [if_neg w0, if_neg w0]
  by_cases w1 : which = 1
  · rw [if_pos w1, if_pos w1]
    split
    · rename_i hl
      subst hl
      refine ⟨?_, fun h => ?_⟩
      · simp only [subF, ex]
        rw [Bool.eq_iff_iff, inR_iff, decide_eq_true_iff]
        omega
      · simp only [subF, ex]
        congr 1
    · have := sumF_ok (x := x) (y := -y) hx (inR_iff.2 (by omega))
      rw [← Int.sub_eq_add_neg] at this
      exact this
  rw [if_neg w1, if_neg w1]
  by_cases w2 : which = 2
  · rw [if_pos w2, if_pos w2]
    have hna : (x * y).natAbs = x.natAbs * y.natAbs := Int.natAbs_mul x y
    by_cases hb : x.natAbs * y.natAbs < 18446744073709551616
    · rw [Nat.mod_eq_of_lt hb, Nat.div_eq_of_lt hb, ← hna]
      simp only [decide_true, Bool.and_true]
      exact sg_ok (natAbs_sign mul_neg_iff)
    · have h1 : ¬ x.natAbs * y.natAbs / 18446744073709551616 = 0 := by omega
      rw [decide_eq_false h1, Bool.and_false]
      refine ⟨?_, fun h => by cases h⟩
      simp only [mulF, ex]
      have : ¬ inR (x * y) = true := fun e => by have := inR_iff.1 e; omega
      simpa using this
  rw [if_neg w2, if_neg w2]
  have y0' := y0 (by omega)
  by_cases w3 : which = 3
  · rw [if_pos w3, if_pos w3, ← natAbs_td]
    exact sg_ok (natAbs_sign tdiv_neg_iff)
  · rw [if_neg w3, if_neg w3, ← natAbs_tm]
    refine sg_ok (natAbs_sign fun h => ?_)
    rcases (show x < 0 ∨ 0 ≤ x by omega) with h1 | h1
    · have h2 : x.tmod y ≤ 0 := by
        have := Int.tmod_nonneg y (show 0 ≤ -x by omega)
        rw [Int.neg_tmod] at this
        omega
      have h3 : x.tmod y < 0 := by omega
      simp [h1, h3]
    · have := Int.tmod_nonneg y h1
      have a : ¬ x < 0 := by omega
      have b : ¬ x.tmod y < 0 := by omega
      simp [a, b]
end Go.WK
