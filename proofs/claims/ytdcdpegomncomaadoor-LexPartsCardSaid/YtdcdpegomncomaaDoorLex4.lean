/- Which numerals are numbers of 64 bits: the document's way and the library's. Plain: no program in sight. -/
import Derived.Test.YtdcdpegomncomaaDoorLex3
import Derived.Lib.ParseIntB
import Derived.Lib.ParseIntBTie
import Derived.Lib.ParseIntBCases
namespace Go.WK
open Go.RowKit Go.Lib

def digS (acc : Nat) (c : UInt8) : Nat := acc * 10 + (c.toNat - 48)
def valF : Nat → List UInt8 → Nat
  | acc, [] => acc
  | acc, c :: r => valF (digS acc c) r
def allDig (l : List UInt8) : Prop := ∀ c ∈ l, 48 ≤ c.toNat ∧ c.toNat ≤ 57
theorem allDig_cons {c : UInt8} {l : List UInt8} : allDig (c :: l) ↔ (48 ≤ c.toNat ∧ c.toNat ≤ 57) ∧ allDig l := by simp [allDig]
theorem mul_step (acc k P v : Nat) : (acc * 10 + k) * P + v = acc * (P * 10) + (k * P + v) := by
  rw [Nat.add_mul, Nat.mul_comm P 10, ← Nat.mul_assoc, Nat.add_assoc]
theorem valF_acc : ∀ (l : List UInt8) (acc : Nat), valF acc l = acc * 10 ^ l.length + valF 0 l
  | [], acc => by
    have e1 : valF acc [] = acc := rfl
    have e2 : valF 0 [] = 0 := rfl
    rw [e1, e2, List.length_nil, Nat.pow_zero, Nat.mul_one, Nat.add_zero]
  | c :: r, acc => by
    have e : valF 0 (c :: r) = valF (digS 0 c) r := rfl
    have e2 : valF acc (c :: r) = valF (digS acc c) r := rfl
    rw [e, e2, valF_acc r (digS acc c), valF_acc r (digS 0 c), List.length_cons, Nat.pow_succ, digS, digS, mul_step, Nat.zero_mul, Nat.zero_add]
theorem valF_cons (c : UInt8) (r : List UInt8) : valF 0 (c :: r) = (c.toNat - 48) * 10 ^ r.length + valF 0 r := by
  have e : valF 0 (c :: r) = valF (digS 0 c) r := rfl
  rw [e, valF_acc, digS, Nat.zero_mul, Nat.zero_add]
theorem valF_lt : ∀ (l : List UInt8), allDig l → valF 0 l < 10 ^ l.length
  | [], _ => by
    have e2 : valF 0 [] = 0 := rfl
    rw [e2, List.length_nil]; decide
  | c :: r, h => by
    obtain ⟨h1, h2⟩ := allDig_cons.1 h
    have := valF_lt r h2
    rw [valF_cons, List.length_cons, Nat.pow_succ]
    have h3 : (c.toNat - 48) * 10 ^ r.length ≤ 9 * 10 ^ r.length := Nat.mul_le_mul_right _ (by omega)
    omega
theorem valF_ge (l : List UInt8) (acc : Nat) : acc ≤ valF acc l := by
  rw [valF_acc]
  have : acc * 1 ≤ acc * 10 ^ l.length := Nat.mul_le_mul_left _ (Nat.one_le_pow _ _ (by decide))
  omega
theorem pM : ∀ (l : List UInt8) (acc : Nat), allDig l → acc ≤ 18446744073709551615 → parseUintM 18446744073709551615 acc l = if valF acc l ≤ 18446744073709551615 then .ok (valF acc l) else .range
  | [], acc, _, ha => by
    have e : valF acc [] = acc := rfl
    rw [e, if_pos ha]
    rfl
  | c :: r, acc, h, ha => by
    obtain ⟨h1, h2⟩ := allDig_cons.1 h
    have e : valF acc (c :: r) = valF (digS acc c) r := rfl
    have e2 : digS acc c = acc * 10 + (c.toNat - 48) := rfl
    have hg := valF_ge r (digS acc c)
    obtain ⟨z0, e3⟩ : ∃ z0, parseUintM 18446744073709551615 acc (c :: r) = if 48 ≤ c.toNat ∧ c.toNat ≤ 57 then (if 1844674407370955162 ≤ acc then .range else if 18446744073709551615 < digS acc c then .range else parseUintM 18446744073709551615 (digS acc c) r) else z0 := ⟨_, by rw [parseUintM]; rfl⟩
    rw [e, e3, if_pos h1]
    by_cases c1 : 1844674407370955162 ≤ acc
    · rw [if_pos c1, if_neg (by omega)]
    · rw [if_neg c1]
      by_cases c2 : 18446744073709551615 < digS acc c
      · rw [if_pos c2, if_neg (by omega)]
      · rw [if_neg c2]
        exact pM r _ h2 (by omega)
theorem parse_dig {l : List UInt8} (h : allDig l) (hne : l ≠ []) : parseIntB 64 l = if valF 0 l < 9223372036854775808 then .ok (valF 0 l : Int) else .range := by
  cases l with
  | nil => exact absurd rfl hne
  | cons c r =>
    obtain ⟨h1, _⟩ := allDig_cons.1 h
    rw [parseIntB_plain _ _ _ (by omega) (by omega)]
    unfold parseUintB
    rw [if_neg (by simp)]
    have e1 : (2 : Nat) ^ 64 - 1 = 18446744073709551615 := by decide
    have e2 : (2 : Nat) ^ (64 - 1) = 9223372036854775808 := by decide
    rw [e1, e2, pM _ 0 h (by decide)]
    generalize valF 0 (c :: r) = v
    by_cases h3 : v ≤ 18446744073709551615
    · rw [if_pos h3]
      unfold signlessC
      simp only
      by_cases h4 : v < 9223372036854775808
      · rw [if_pos h4, if_neg (by omega)]
      · rw [if_neg h4, if_pos (by omega)]
    · rw [if_neg h3, if_neg (by omega)]
      rfl
theorem less_val (l : List UInt8) : ∀ m : List UInt8, l.length = m.length → allDig l → allDig m → (Op.bytesLess l m || decide (l = m)) = decide (valF 0 l ≤ valF 0 m) := by
  induction l with
  | nil => intro m hl _ _; cases m with
    | nil => rfl
    | cons => simp at hl
  | cons c l ih =>
    intro m hl h h'
    cases m with
    | nil => simp at hl
    | cons d m =>
      obtain ⟨h1, h2⟩ := allDig_cons.1 h
      obtain ⟨h3, h4⟩ := allDig_cons.1 h'
      have hl : l.length = m.length := by simpa using hl
      have b1 := valF_lt l h2
      have b2 := valF_lt m h4
      rw [hl] at b1
      have ec := valF_cons c l
      rw [hl] at ec
      have ed := valF_cons d m
      generalize hP : 10 ^ m.length = P at b1 b2 ec ed
      rcases Nat.lt_trichotomy c.toNat d.toNat with hc | hc | hc
      · have e : (c.toNat - 48 + 1) * P ≤ (d.toNat - 48) * P := Nat.mul_le_mul_right _ (by omega)
        rw [Nat.add_mul] at e
        have e1 : Op.bytesLess (c :: l) (d :: m) = true := by
          simp only [Op.bytesLess]
          have : c < d := UInt8.lt_iff_toNat_lt.2 hc
          simp [this]
        rw [e1, Bool.true_or]
        exact (decide_eq_true (by omega)).symm
      · have hcd : c = d := UInt8.toNat_inj.1 hc
        subst hcd
        have e1 : Op.bytesLess (c :: l) (c :: m) = Op.bytesLess l m := by simp [Op.bytesLess]
        rw [e1]
        have e2 : decide (c :: l = c :: m) = decide (l = m) := by simp
        rw [e2, ih m (by simpa using hl) h2 h4]
        exact decide_eq_decide.2 (by omega)
      · have e : (d.toNat - 48 + 1) * P ≤ (c.toNat - 48) * P := Nat.mul_le_mul_right _ (by omega)
        rw [Nat.add_mul] at e
        have h5 : ¬ c < d := fun e => by have := UInt8.lt_iff_toNat_lt.1 e; omega
        have h6 : c ≠ d := fun e => by rw [e] at hc; omega
        have e1 : Op.bytesLess (c :: l) (d :: m) = false := by simp [Op.bytesLess, h5, h6]
        have e2 : decide (c :: l = d :: m) = false := decide_eq_false (by simp [h6])
        rw [e1, e2, Bool.false_or]
        exact (decide_eq_false (by omega)).symm
theorem most_val {d : List UInt8} (h : allDig d) (hz : d.getD 0 0 = 48 → d.length ≤ 1) : most d = decide (valF 0 d < 9223372036854775808) := by
  unfold most
  rcases Nat.lt_trichotomy d.length 19 with hl | hl | hl
  · have h1 := valF_lt d h
    have h2 : (10 : Nat) ^ d.length ≤ 10 ^ 18 := Nat.pow_le_pow_right (by decide) (by omega)
    have h3 : (10 : Nat) ^ 18 = 1000000000000000000 := by decide
    rw [decide_eq_true hl, Bool.true_or]
    exact (decide_eq_true (by omega)).symm
  · have ht : allDig top19 := by intro c hc; simp [top19] at hc; rcases hc with rfl | rfl | rfl | rfl | rfl | rfl | rfl | rfl | rfl | rfl | rfl | rfl | rfl | rfl | rfl | rfl | rfl | rfl | rfl <;> decide
    have hv : valF 0 top19 = 9223372036854775807 := by decide
    rw [less_val d top19 (by rw [hl]; rfl) h ht, hv, decide_eq_false (by omega), decide_eq_true hl, Bool.false_or, Bool.true_and]
    exact decide_eq_decide.2 (by omega)
  · rw [decide_eq_false (by omega), decide_eq_false (by omega), Bool.false_and, Bool.or_false]
    refine (decide_eq_false ?_).symm
    cases d with
    | nil => simp at hl
    | cons c r =>
      obtain ⟨h1, _⟩ := allDig_cons.1 h
      have hc : c.toNat ≠ 48 := fun e => by
        have : c = 48 := UInt8.toNat_inj.1 e
        have := hz (by simpa using this)
        omega
      have hg : 1 * 10 ^ r.length ≤ valF 0 (c :: r) := by
        rw [valF_cons]
        have : 1 * 10 ^ r.length ≤ (c.toNat - 48) * 10 ^ r.length := Nat.mul_le_mul_right _ (by omega)
        omega
      have h2 : (10 : Nat) ^ 19 ≤ 10 ^ r.length := Nat.pow_le_pow_right (by decide) (by simp at hl; omega)
      have h3 : (10 : Nat) ^ 19 = 10000000000000000000 := by decide
      omega
theorem run_dig (s : List UInt8) : allDig (s.take (runL isDig s)) := by
  intro c hc
  obtain ⟨i, hi, e⟩ := List.mem_iff_getElem.1 hc
  rw [List.getElem_take] at e
  have hi : i < runL isDig s := by rw [List.length_take] at hi; omega
  have h := run_at isDig s i hi
  have hl := run_le isDig s
  have e2 : s.getD i 0 = c := by rw [← e]; simp [List.getD, show i < s.length by omega]
  rw [e2] at h
  exact dig_iff.1 h
/-- A numeral that is faulty: as the library parses it. -/
theorem numBad_parse {s : List UInt8} (h : isDig (s.getD 0 0) = true) : (∃ n, parseIntB 64 (s.take (runL isDig s)) = .ok n) ∧ ¬ (1 < runL isDig s ∧ s.getD 0 0 = 48) ∧ ¬ (runL isDig s < s.length ∧ isLet (s.getD (runL isDig s) 0) = true) ↔ ¬ numBad s (runL isDig s) := by
  have hn : 1 ≤ runL isDig s := by
    cases s with
    | nil => exact absurd h (by decide)
    | cons c l => have : isDig c = true := by simpa using h
                  simp [runL, this]
  have hl := run_le isDig s
  have hd := run_dig s
  have hlen : (s.take (runL isDig s)).length = runL isDig s := by rw [List.length_take]; omega
  have hp := parse_dig hd (fun e => by rw [e] at hlen; simp at hlen; omega)
  have hg : (s.take (runL isDig s)).getD 0 0 = s.getD 0 0 := by simp [List.getD, List.getElem?_take, show 0 < runL isDig s by omega]
  unfold numBad
  by_cases hz : 1 < runL isDig s ∧ s.getD 0 0 = 48
  · exact iff_of_false (fun e => e.2.1 hz) (fun e => e (.inl hz))
  · have hm := most_val hd (fun e => by rw [hg] at e; rw [hlen]; exact Nat.le_of_not_lt fun h => hz ⟨h, e⟩)
    rw [hp, hm]
    by_cases hv : valF 0 (s.take (runL isDig s)) < 9223372036854775808
    · rw [if_pos hv, decide_eq_true hv]
      exact ⟨fun e hb => by
        rcases hb with hb | hb | hb
        · exact hz hb
        · cases hb
        · exact e.2.2 hb, fun e => ⟨⟨_, rfl⟩, hz, fun h => e (.inr (.inr h))⟩⟩
    · rw [if_neg hv, decide_eq_false hv]
      exact iff_of_false (fun e => by obtain ⟨⟨n, hn⟩, _⟩ := e; cases hn) (fun e => e (.inr (.inl rfl)))
def parses (d : List UInt8) : Bool := match parseIntB 64 d with
  | .ok _ => true
  | _ => false
theorem parses_iff {d : List UInt8} : parses d = true ↔ ∃ n, parseIntB 64 d = .ok n := by
  unfold parses
  cases h : parseIntB 64 d <;> simp
theorem parses_no {d : List UInt8} (h : parses d = false) : ∀ n, parseIntB 64 d ≠ .ok n := fun n e => by
  rw [parses_iff.2 ⟨n, e⟩] at h; cases h
/-- The lexer's test of a numeral. -/
theorem numBad_test {s : List UInt8} (h : isDig (s.getD 0 0) = true) (b c : Bool) (hb : b = (decide (1 < runL isDig s) && decide (s.getD 0 0 = 48))) (hc : c = (decide (runL isDig s < s.length) && isLet (s.getD (runL isDig s) 0))) :
    ((!parses (s.take (runL isDig s)) || b) || c) = decide (numBad s (runL isDig s)) := by
  have e := numBad_parse h
  subst hb; subst hc
  by_cases hn : numBad s (runL isDig s)
  · rw [decide_eq_true hn]
    cases hv : ((!parses (s.take (runL isDig s)) || (decide (1 < runL isDig s) && decide (s.getD 0 0 = 48))) || (decide (runL isDig s < s.length) && isLet (s.getD (runL isDig s) 0))) with
    | true => rfl
    | false =>
      exfalso
      simp only [Bool.or_eq_false_iff, Bool.not_eq_false', Bool.and_eq_false_iff, decide_eq_false_iff_not] at hv
      obtain ⟨⟨h1, h2⟩, h3⟩ := hv
      refine e.1 ⟨parses_iff.1 h1, fun h => ?_, fun h => ?_⟩ hn
      · rcases h2 with h2 | h2
        · exact h2 h.1
        · exact h2 h.2
      · rcases h3 with h3 | h3
        · exact h3 h.1
        · rw [h.2] at h3; cases h3
  · rw [decide_eq_false hn]
    obtain ⟨h1, h2, h3⟩ := e.2 hn
    rw [parses_iff.2 h1]
    simp only [Bool.not_true, Bool.false_or, Bool.or_eq_false_iff, Bool.and_eq_false_iff, decide_eq_false_iff_not]
    refine ⟨?_, ?_⟩
    · by_cases q : 1 < runL isDig s
      · exact .inr fun e => h2 ⟨q, e⟩
      · exact .inl q
    · by_cases q : runL isDig s < s.length
      · right; cases hl : isLet (s.getD (runL isDig s) 0) with
        | false => rfl
        | true => exact absurd ⟨q, hl⟩ h3
      · exact .inl q
end Go.WK
