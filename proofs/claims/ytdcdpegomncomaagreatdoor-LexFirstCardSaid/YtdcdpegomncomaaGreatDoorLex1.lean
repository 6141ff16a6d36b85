/- The tokens of a text, as plain functions; where a token may be cut off, and what a blank changes. No program in sight. -/
import Derived.Test.YtdcdpegomncomaaGreatDoorWk9
namespace Go.WK
open Go.RowKit

/-- A token: its kind, its text, where it begins. -/
structure Tok where
  k : Int
  t : List UInt8
  a : Int
instance : DecidableEq Tok := fun a b => decidable_of_iff (a.k = b.k ∧ a.t = b.t ∧ a.a = b.a) ⟨fun h => by cases a; cases b; simp_all, fun h => by rw [h]; simp⟩
def isLetZ (z : Int) : Bool := ((decide (97 ≤ z) && decide (z ≤ 122)) || (decide (65 ≤ z) && decide (z ≤ 90))) || decide (z = 95)
def isDigZ (z : Int) : Bool := decide (48 ≤ z) && decide (z ≤ 57)
def isLet (c : UInt8) : Bool := isLetZ c.toNat
def isDig (c : UInt8) : Bool := isDigZ c.toNat
def isWd (c : UInt8) : Bool := isLet c || isDig c
def isBl (c : UInt8) : Bool := ((decide (c = 32) || decide (c = 9)) || decide (c = 10)) || decide (c = 13)
/-- How many bytes of blanks and comments stand ahead; 'true': within a comment. -/
def gapM : Bool → List UInt8 → Nat
  | _, [] => 0
  | true, c :: l => if c = 10 then 1 + gapM false l else 1 + gapM true l
  | false, c :: l => if isBl c = true then 1 + gapM false l else if c = 45 ∧ l.head? = some 45 then 1 + gapM true l else 0
abbrev gap (l : List UInt8) : Nat := gapM false l
def runL (p : UInt8 → Bool) : List UInt8 → Nat
  | [] => 0
  | c :: l => if p c = true then runL p l + 1 else 0
def low (c : UInt8) : UInt8 := if 65 ≤ c.toNat ∧ c.toNat ≤ 90 then c + 32 else c
def small (l : List UInt8) : List UInt8 := l.map low
def top19 : List UInt8 := [57, 50, 50, 51, 51, 55, 50, 48, 51, 54, 56, 53, 52, 55, 55, 53, 56, 48, 55]
def most (d : List UInt8) : Bool := decide (d.length < 19) || (decide (d.length = 19) && (Op.bytesLess d top19 || decide (d = top19)))
/-- A quoted text's bytes behind its first mark, and how many bytes it has with its last. -/
def quo : List UInt8 → Option (List UInt8 × Nat)
  | [] => none
  | [c] => if c = 39 then some ([], 1) else none
  | c :: d :: l => if c = 39 then (if d = 39 then (quo l).map (fun r => (39 :: r.1, r.2 + 2)) else some ([], 1)) else (quo (d :: l)).map fun r => (c :: r.1, r.2 + 1)
def sgn (c d : Int) : Nat :=
  if c = 60 then (if d = 62 ∨ d = 61 then 2 else 1) else if c = 62 then (if d = 61 then 2 else 1)
  else if c = 40 ∨ c = 41 ∨ c = 44 ∨ c = 46 ∨ c = 59 ∨ c = 61 ∨ c = 43 ∨ c = 45 ∨ c = 42 ∨ c = 47 ∨ c = 37 then 1
  else if c = 124 ∧ d = 124 then 2 else 0
def sgnL (s : List UInt8) : Nat := sgn (s.getD 0 0).toNat (s.getD 1 0).toNat
structure One where
  k : Int
  t : List UInt8
  n : Nat
  e : Int
def numBad (s : List UInt8) (n : Nat) : Prop := (1 < n ∧ s.getD 0 0 = 48) ∨ most (s.take n) = false ∨ (n < s.length ∧ isLet (s.getD n 0) = true)
instance (s : List UInt8) (n : Nat) : Decidable (numBad s n) := by unfold numBad; exact inferInstance
/-- The token with which a text begins. -/
def one (s : List UInt8) : One :=
  if isLet (s.getD 0 0) = true then ⟨1, small (s.take (runL isWd s)), runL isWd s, 0⟩
  else if isDig (s.getD 0 0) = true then (if numBad s (runL isDig s) then ⟨0, [], 0, 180⟩ else ⟨2, s.take (runL isDig s), runL isDig s, 0⟩)
  else if s.getD 0 0 = 39 then (match quo (s.drop 1) with | none => ⟨0, [], 0, 180⟩ | some r => if 64 < r.1.length then ⟨0, [], 0, 3⟩ else ⟨3, r.1, r.2 + 1, 0⟩)
  else if sgnL s = 0 then ⟨0, [], 0, 180⟩ else ⟨4, s.take (sgnL s), sgnL s, 0⟩
abbrev Res := Except (Int × Int) (List Tok)
/-- The tokens of what stands behind a gap. -/
def lexR : Nat → Nat → List UInt8 → Res
  | 0, _, _ => .error (0, 0)
  | _ + 1, at_, [] => .ok [⟨5, [], at_⟩]
  | f + 1, at_, c :: l => if (one (c :: l)).e ≠ 0 then .error ((one (c :: l)).e, at_) else
      (lexR f (at_ + (one (c :: l)).n + gap ((c :: l).drop (one (c :: l)).n)) (((c :: l).drop (one (c :: l)).n).drop (gap ((c :: l).drop (one (c :: l)).n)))).map (⟨(one (c :: l)).k, (one (c :: l)).t, at_⟩ :: ·)
/-- .. of any text, of which the first byte stands at 'o'. -/
def lexP (f o : Nat) (q : List UInt8) : Res := lexR f (o + gap q) (q.drop (gap q))
def lexL (s : List UInt8) : Res := if 4096 < s.length then .error (3, 0) else lexP (s.length + 1) 0 s

/-! ### Small facts -/
theorem let_iff {c : UInt8} : isLet c = true ↔ (97 ≤ c.toNat ∧ c.toNat ≤ 122) ∨ (65 ≤ c.toNat ∧ c.toNat ≤ 90) ∨ c.toNat = 95 := by
  simp only [isLet, isLetZ, Bool.or_eq_true, Bool.and_eq_true, decide_eq_true_eq]; omega
theorem dig_iff {c : UInt8} : isDig c = true ↔ 48 ≤ c.toNat ∧ c.toNat ≤ 57 := by
  simp only [isDig, isDigZ, Bool.and_eq_true, decide_eq_true_eq]; omega
theorem wd_iff {c : UInt8} : isWd c = true ↔ isLet c = true ∨ isDig c = true := by simp [isWd]
theorem byte_iff {c : UInt8} {n : Nat} (h : n < 256) : c = UInt8.ofNat n ↔ c.toNat = n := by
  rw [← UInt8.toNat_inj]; simp; omega
theorem bl_iff {c : UInt8} : isBl c = true ↔ c = 32 ∨ c = 9 ∨ c = 10 ∨ c = 13 := by simp [isBl, or_assoc]
theorem bl_nat {c : UInt8} : isBl c = true ↔ c.toNat = 32 ∨ c.toNat = 9 ∨ c.toNat = 10 ∨ c.toNat = 13 := by
  rw [bl_iff]
  have h1 : c = 32 ↔ c.toNat = 32 := byte_iff (by decide)
  have h2 : c = 9 ↔ c.toNat = 9 := byte_iff (by decide)
  have h3 : c = 10 ↔ c.toNat = 10 := byte_iff (by decide)
  have h4 : c = 13 ↔ c.toNat = 13 := byte_iff (by decide)
  rw [h1, h2, h3, h4]
theorem gapM_le (b : Bool) (l : List UInt8) : gapM b l ≤ l.length := by
  induction l generalizing b with
  | nil => cases b <;> simp [gapM]
  | cons c l ih =>
    have h1 := ih true; have h2 := ih false
    cases b <;> simp only [gapM, List.length_cons] <;> (repeat' split) <;> omega
/-- Behind a gap there is none. -/
theorem gap_drop (b : Bool) (l : List UInt8) : gap (l.drop (gapM b l)) = 0 := by
  induction l generalizing b with
  | nil => cases b <;> simp [gapM]
  | cons c l ih =>
    cases b with
    | true =>
      simp only [gapM]
      split
      · rw [Nat.add_comm, List.drop_succ_cons]; exact ih false
      · rw [Nat.add_comm, List.drop_succ_cons]; exact ih true
    | false =>
      simp only [gapM]
      split
      · rw [Nat.add_comm, List.drop_succ_cons]; exact ih false
      · rename_i h1
        split
        · rw [Nat.add_comm, List.drop_succ_cons]; exact ih true
        · rename_i h2
          simp [gapM, h1, h2]
/-- A gap goes up to a byte; what follows that byte may be changed. -/
theorem gap_same (b : Bool) (p : List UInt8) (c : UInt8) (l l' : List UInt8) (h : gapM b (p ++ c :: l) = p.length) (hl : l'.head? = l.head? ∨ l'.head? ≠ some 45) : gapM b (p ++ c :: l') = p.length := by
  induction p generalizing b with
  | nil =>
    cases b with
    | true => simp only [List.nil_append, gapM, List.length_nil] at h; split at h <;> omega
    | false =>
      simp only [List.nil_append, gapM, List.length_nil] at h ⊢
      split at h
      · omega
      · rename_i h1
        rw [if_neg h1]
        split at h
        · omega
        · rename_i h2
          rw [if_neg]
          intro e
          rcases hl with hl | hl
          · exact h2 ⟨e.1, by rw [← hl]; exact e.2⟩
          · exact hl e.2
  | cons x p ih =>
    have hh : (p ++ c :: l').head? = (p ++ c :: l).head? := by cases p <;> simp
    cases b with
    | true =>
      simp only [List.cons_append, gapM, List.length_cons] at h ⊢
      split at h
      · rename_i h1; rw [if_pos h1, ih false (by omega)]; omega
      · rename_i h1; rw [if_neg h1, ih true (by omega)]; omega
    | false =>
      simp only [List.cons_append, gapM, List.length_cons] at h ⊢
      rw [hh]
      split at h
      · rename_i h1; rw [if_pos h1, ih false (by omega)]; omega
      · rename_i h1
        rw [if_neg h1]
        split at h
        · rename_i h2; rw [if_pos h2, ih true (by omega)]; omega
        · omega
/-- A text that is all gap, and a line's end behind it. -/
theorem gap_all (b : Bool) (q t : List UInt8) (h : gapM b q = q.length) : gapM b (q ++ 10 :: t) = q.length + 1 + gap t := by
  induction q generalizing b with
  | nil => cases b <;> simp [gapM, isBl]
  | cons c q ih =>
    cases b with
    | true =>
      simp only [List.cons_append, gapM, List.length_cons] at h ⊢
      split at h
      · rename_i h1; rw [if_pos h1, ih false (by omega)]; omega
      · rename_i h1; rw [if_neg h1, ih true (by omega)]; omega
    | false =>
      simp only [List.cons_append, gapM, List.length_cons] at h ⊢
      split at h
      · rename_i h1; rw [if_pos h1, ih false (by omega)]; omega
      · rename_i h1
        rw [if_neg h1]
        split at h
        · rename_i h2
          have hh : (q ++ 10 :: t).head? = some 45 := by cases q with
            | nil => simp at h2
            | cons => simpa using h2.2
          rw [if_pos ⟨h2.1, hh⟩, ih true (by omega)]; omega
        · omega
/-- .. and a blank behind it. -/
theorem gap_end (b : Bool) (q : List UInt8) (h : gapM b q = q.length) : gapM b (q ++ [32]) = q.length + 1 := by
  induction q generalizing b with
  | nil => cases b <;> simp [gapM, isBl]
  | cons c q ih =>
    cases b with
    | true =>
      simp only [List.cons_append, gapM, List.length_cons] at h ⊢
      split at h
      · rename_i h1; rw [if_pos h1, ih false (by omega)]; omega
      · rename_i h1; rw [if_neg h1, ih true (by omega)]; omega
    | false =>
      simp only [List.cons_append, gapM, List.length_cons] at h ⊢
      split at h
      · rename_i h1; rw [if_pos h1, ih false (by omega)]; omega
      · rename_i h1
        rw [if_neg h1]
        split at h
        · rename_i h2
          have hh : (q ++ [32]).head? = some 45 := by cases q with
            | nil => simp at h2
            | cons => simpa using h2.2
          rw [if_pos ⟨h2.1, hh⟩, ih true (by omega)]; omega
        · omega
/-- A blank between a gap and the byte behind it. -/
theorem gap_blank (b : Bool) (p : List UInt8) (c : UInt8) (l : List UInt8) (h : gapM b (p ++ c :: l) = p.length) : gapM b (p ++ 32 :: c :: l) = p.length + 1 := by
  induction p generalizing b with
  | nil =>
    cases b with
    | true => simp only [List.nil_append, gapM, List.length_nil] at h; split at h <;> omega
    | false =>
      rw [List.nil_append] at h ⊢
      have e : gapM false (32 :: c :: l) = 1 + gapM false (c :: l) := by rw [gapM, if_pos (by decide)]
      rw [e, h]; rfl
  | cons x p ih =>
    cases b with
    | true =>
      simp only [List.cons_append, gapM, List.length_cons] at h ⊢
      split at h
      · rename_i h1; rw [if_pos h1, ih false (by omega)]; omega
      · rename_i h1; rw [if_neg h1, ih true (by omega)]; omega
    | false =>
      simp only [List.cons_append, gapM, List.length_cons] at h ⊢
      split at h
      · rename_i h1; rw [if_pos h1, ih false (by omega)]; omega
      · rename_i h1
        rw [if_neg h1]
        split at h
        · rename_i h2
          have hp : 0 < p.length := by
            rcases Nat.eq_zero_or_pos p.length with e | e
            · exfalso
              have := List.length_eq_zero_iff.1 e
              subst this
              simp only [List.nil_append, List.length_nil, gapM] at h
              split at h <;> omega
            · exact e
          have hh : (p ++ 32 :: c :: l).head? = (p ++ c :: l).head? := by cases p <;> simp at hp ⊢
          rw [hh, if_pos h2, ih true (by omega)]; omega
        · omega

/-! ### Runs -/
theorem run_le (P : UInt8 → Bool) (l : List UInt8) : runL P l ≤ l.length := by
  induction l with
  | nil => simp [runL]
  | cons c l ih => simp only [runL, List.length_cons]; split <;> omega
theorem run_at (P : UInt8 → Bool) (l : List UInt8) (i : Nat) (h : i < runL P l) : P (l.getD i 0) = true := by
  induction l generalizing i with
  | nil => simp [runL] at h
  | cons c l ih =>
    simp only [runL] at h
    split at h
    · rename_i h1
      cases i with
      | zero => simpa using h1
      | succ i => have := ih i (by omega); simpa using this
    · omega
theorem run_end (P : UInt8 → Bool) (l : List UInt8) (h : runL P l < l.length) : P (l.getD (runL P l) 0) = false := by
  induction l with
  | nil => simp [runL] at h
  | cons c l ih =>
    simp only [runL, List.length_cons] at h ⊢
    split at h
    · rename_i h1
      rw [if_pos h1]
      have := ih (by omega)
      simpa using this
    · rename_i h1
      rw [if_neg h1]
      simpa using h1
/-- A run that is given by its ends. -/
theorem run_is (P : UInt8 → Bool) (l : List UInt8) (n : Nat) (hn : n ≤ l.length) (h : ∀ i, i < n → P (l.getD i 0) = true) (he : n < l.length → P (l.getD n 0) = false) : runL P l = n := by
  induction l generalizing n with
  | nil => simp at hn; simp [runL, hn]
  | cons c l ih =>
    cases n with
    | zero =>
      have := he (by simp)
      simp at this
      simp [runL, this]
    | succ n =>
      have h0 := h 0 (by omega)
      simp at h0
      have := ih n (by simpa using hn) (fun i hi => by have := h (i + 1) (by omega); simpa using this) (fun hl => by have := he (by simpa using hl); simpa using this)
      simp [runL, h0, this]
theorem getD_app (p r : List UInt8) (i : Nat) (h : i < p.length) : (p ++ r).getD i 0 = p.getD i 0 := by
  simp [List.getD, List.getElem?_append_left h]
theorem getD_head (p r : List UInt8) : (p ++ r).getD p.length 0 = r.head?.getD 0 := by
  rw [List.getD_eq_getElem?_getD, List.getElem?_append_right (Nat.le_refl _), Nat.sub_self]
  cases r <;> simp
theorem run_cut {P : UInt8 → Bool} {p r r' : List UInt8} (h : runL P (p ++ r) = p.length) (hr : r' = [] ∨ P (r'.head?.getD 0) = false) : runL P (p ++ r') = p.length := by
  refine run_is P _ _ (by simp) (fun i hi => ?_) (fun hl => ?_)
  · rw [getD_app _ _ _ hi]
    have := run_at P (p ++ r) i (by omega)
    rwa [getD_app _ _ _ hi] at this
  · rw [getD_head]
    rcases hr with rfl | hr
    · simp at hl
    · exact hr
theorem run_stop {P : UInt8 → Bool} {p r : List UInt8} (h : runL P (p ++ r) = p.length) : r = [] ∨ P (r.head?.getD 0) = false := by
  cases r with
  | nil => exact .inl rfl
  | cons c r =>
    refine .inr ?_
    have := run_end P (p ++ c :: r) (by rw [h]; simp)
    rw [h, getD_head] at this
    exact this

/-! ### Quoted texts -/
theorem quo_n {l t : List UInt8} {n : Nat} (h : quo l = some (t, n)) : 1 ≤ n ∧ n ≤ l.length ∧ l.getD (n - 1) 0 = 39 := by
  induction l using quo.induct generalizing t n with
  | case1 => cases h
  | case2 => rw [quo, if_pos rfl] at h; cases h; simp
  | case3 c hc => rw [quo, if_neg hc] at h; cases h
  | case4 l ih =>
    rw [quo, if_pos rfl, if_pos rfl, Option.map_eq_some_iff] at h
    obtain ⟨r, hr, e⟩ := h
    cases e
    obtain ⟨h1, h2, h3⟩ := ih (t := r.1) (n := r.2) hr
    refine ⟨by omega, by simp; omega, ?_⟩
    rw [show r.2 + 2 - 1 = (r.2 - 1) + 1 + 1 by omega]
    simpa using h3
  | case5 d l hd => rw [quo, if_pos rfl, if_neg hd] at h; cases h; simp
  | case6 c d l hc ih =>
    rw [quo, if_neg hc, Option.map_eq_some_iff] at h
    obtain ⟨r, hr, e⟩ := h
    cases e
    obtain ⟨h1, h2, h3⟩ := ih (t := r.1) (n := r.2) hr
    refine ⟨by omega, by simp at h2 ⊢; omega, ?_⟩
    rw [show r.2 + 1 - 1 = (r.2 - 1) + 1 by omega]
    simpa using h3
theorem quo_cut (p : List UInt8) : ∀ {t r r' : List UInt8}, quo (p ++ r) = some (t, p.length) → (r'.head? = r.head? ∨ r'.head? ≠ some 39) → quo (p ++ r') = some (t, p.length) := by
  induction p using quo.induct with
  | case1 =>
    intro t r r' h hr
    obtain ⟨h1, _⟩ := quo_n h
    simp at h1
  | case2 =>
    intro t r r' h hr
    have hne : r.head? ≠ some 39 := by
      intro e
      cases r with
      | nil => cases e
      | cons x r =>
        obtain rfl : x = 39 := by simpa using e
        simp only [List.cons_append, List.nil_append, quo, if_true, Option.map_eq_some_iff] at h
        obtain ⟨y, _, hy⟩ := h
        simp at hy
    have hne' : r'.head? ≠ some 39 := by rcases hr with e | e; rw [e]; exact hne; exact e
    have ht : t = [] := by
      cases r with
      | nil => simp [quo] at h; exact h
      | cons x r =>
        have : x ≠ 39 := fun e => hne (by simp [e])
        simp [quo, this] at h
        exact h
    subst ht
    cases r' with
    | nil => simp [quo]
    | cons x r' =>
      have : x ≠ 39 := fun e => hne' (by simp [e])
      simp [quo, this]
  | case3 c hc =>
    intro t r r' h hr
    cases r with
    | nil => simp [quo, hc] at h
    | cons x r =>
      simp only [List.cons_append, List.nil_append, quo, if_neg hc, Option.map_eq_some_iff] at h
      obtain ⟨y, hy, e⟩ := h
      obtain ⟨h1, _⟩ := quo_n (t := y.1) (n := y.2) hy
      simp at e
      omega
  | case4 l ih =>
    intro t r r' h hr
    simp only [List.cons_append, quo, if_true, Option.map_eq_some_iff] at h ⊢
    obtain ⟨y, hy, e⟩ := h
    simp only [Prod.mk.injEq, List.length_cons] at e
    have : quo (l ++ r) = some (y.1, l.length) := by rw [hy]; congr 1; exact Prod.ext rfl (by simp; omega)
    exact ⟨(y.1, l.length), ih this hr, by rw [← e.1]; simp⟩
  | case5 d l hd =>
    intro t r r' h hr
    simp only [List.cons_append, quo, if_true, if_neg hd] at h
    simp at h
  | case6 c d l hc ih =>
    intro t r r' h hr
    simp only [List.cons_append, quo, if_neg hc, Option.map_eq_some_iff] at h ⊢
    obtain ⟨y, hy, e⟩ := h
    simp only [Prod.mk.injEq, List.length_cons] at e
    have : quo (d :: l ++ r) = some (y.1, (d :: l).length) := by rw [List.cons_append, hy]; congr 1; exact Prod.ext rfl (by simp; omega)
    have := ih this hr
    rw [List.cons_append] at this
    exact ⟨(y.1, (d :: l).length), this, by rw [← e.1]; simp⟩

/-! ### One token -/
theorem one_word {s : List UInt8} (h : isLet (s.getD 0 0) = true) : one s = ⟨1, small (s.take (runL isWd s)), runL isWd s, 0⟩ := by rw [one, if_pos h]
theorem one_num {s : List UInt8} (h1 : isLet (s.getD 0 0) = false) (h : isDig (s.getD 0 0) = true) : one s = if numBad s (runL isDig s) then ⟨0, [], 0, 180⟩ else ⟨2, s.take (runL isDig s), runL isDig s, 0⟩ := by
  rw [one, if_neg (by rw [h1]; simp), if_pos h]
theorem one_text {s : List UInt8} (h : s.getD 0 0 = 39) : one s = (match quo (s.drop 1) with | none => ⟨0, [], 0, 180⟩ | some r => if 64 < r.1.length then ⟨0, [], 0, 3⟩ else ⟨3, r.1, r.2 + 1, 0⟩) := by
  rw [one, if_neg (by rw [h]; decide), if_neg (by rw [h]; decide), if_pos h]
theorem one_sign {s : List UInt8} (h1 : isLet (s.getD 0 0) = false) (h2 : isDig (s.getD 0 0) = false) (h3 : s.getD 0 0 ≠ 39) : one s = if sgnL s = 0 then ⟨0, [], 0, 180⟩ else ⟨4, s.take (sgnL s), sgnL s, 0⟩ := by
  rw [one, if_neg (by rw [h1]; simp), if_neg (by rw [h2]; simp), if_neg h3]
theorem sgn_two (c d : Int) : sgn c d ≤ 2 := by
  unfold sgn
  repeat' split
  all_goals omega
theorem sgn_second {c d : Int} (h : sgn c d = 2) : d = 62 ∨ d = 61 ∨ d = 124 := by
  unfold sgn at h
  repeat' split at h
  all_goals omega
theorem sgn_first {c d : Int} (h : sgn c d ≠ 0) : c ≠ 10 ∧ c ≠ 0 := by
  unfold sgn at h
  repeat' split at h
  all_goals omega
theorem sgn_other {c d d' : Int} (h : sgn c d = 1) (hd : d' = 0 ∨ d' = 32 ∨ d' = 10) : sgn c d' = 1 := by
  unfold sgn at h ⊢
  repeat' split at h
  all_goals first | omega | (repeat' split) <;> omega
/-- A token has a byte, not more than there are, and its last is no line's end. -/
theorem one_n {c : UInt8} {l : List UInt8} (h : (one (c :: l)).e = 0) : 1 ≤ (one (c :: l)).n ∧ (one (c :: l)).n ≤ (c :: l).length ∧ (c :: l).getD ((one (c :: l)).n - 1) 0 ≠ 10 := by
  by_cases h1 : isLet ((c :: l).getD 0 0) = true
  · rw [one_word h1]
    have hw : isWd c = true := wd_iff.2 (.inl (by simpa using h1))
    have hn : 1 ≤ runL isWd (c :: l) := by simp [runL, hw]
    refine ⟨hn, run_le _ _, ?_⟩
    have := run_at isWd (c :: l) (runL isWd (c :: l) - 1) (by omega)
    intro e
    rw [e] at this
    exact absurd this (by decide)
  · have h1 : isLet ((c :: l).getD 0 0) = false := by simpa using h1
    by_cases h2 : isDig ((c :: l).getD 0 0) = true
    · rw [one_num h1 h2] at h ⊢
      split at h
      · cases h
      · rename_i h3
        rw [if_neg h3]
        have hd : isDig c = true := by simpa using h2
        have hn : 1 ≤ runL isDig (c :: l) := by simp [runL, hd]
        refine ⟨hn, run_le _ _, ?_⟩
        have := run_at isDig (c :: l) (runL isDig (c :: l) - 1) (by omega)
        intro e
        rw [e] at this
        exact absurd this (by decide)
    · have h2 : isDig ((c :: l).getD 0 0) = false := by simpa using h2
      by_cases h3 : (c :: l).getD 0 0 = 39
      · rw [one_text h3] at h ⊢
        cases hq : quo ((c :: l).drop 1) with
        | none => rw [hq] at h; cases h
        | some r =>
          rw [hq] at h
          simp only at h ⊢
          split at h
          · cases h
          · rename_i h4
            rw [if_neg h4]
            obtain ⟨q1, q2, q3⟩ := quo_n (t := r.1) (n := r.2) hq
            simp only [List.drop_succ_cons, List.drop_zero] at q2 q3
            refine ⟨by simp, by simp; omega, ?_⟩
            show (c :: l).getD (r.2 + 1 - 1) 0 ≠ 10
            rw [show r.2 + 1 - 1 = (r.2 - 1) + 1 by omega]
            have : (c :: l).getD ((r.2 - 1) + 1) 0 = 39 := by simpa using q3
            rw [this]; decide
      · rw [one_sign h1 h2 h3] at h ⊢
        split at h
        · cases h
        · rename_i h4
          rw [if_neg h4]
          have hs2 : sgnL (c :: l) ≤ 2 := sgn_two _ _
          rcases (by omega : sgnL (c :: l) = 1 ∨ sgnL (c :: l) = 2) with e | e
          · rw [e]
            refine ⟨by simp, by simp, ?_⟩
            have := (sgn_first (c := ((c :: l).getD 0 0).toNat) (d := ((c :: l).getD 1 0).toNat) h4).1
            intro e2
            apply this
            show (((c :: l).getD (1 - 1) 0).toNat : Int) = 10
            rw [e2]; rfl
          · rw [e]
            have h5 := sgn_second (c := ((c :: l).getD 0 0).toNat) (d := ((c :: l).getD 1 0).toNat) e
            have hl : 1 < (c :: l).length := by
              rcases Nat.lt_or_ge 1 (c :: l).length with h6 | h6
              · exact h6
              · rw [show (c :: l).getD 1 0 = 0 by rw [List.getD_eq_getElem?_getD, List.getElem?_eq_none h6]; rfl] at h5
                simp at h5
            refine ⟨by simp, hl, ?_⟩
            intro e2
            rw [show 2 - 1 = 1 by rfl] at e2
            rw [e2] at h5
            simp at h5
/-- What stands behind a token may be changed, if not the byte next to it; or if that becomes a blank, a line's end or none. -/
theorem one_cut {p r r' : List UInt8} (hp : p ≠ []) (h : (one (p ++ r)).e = 0) (hn : (one (p ++ r)).n = p.length) (hr : r'.head? = r.head? ∨ r'.head? = some 32 ∨ r'.head? = some 10 ∨ r' = []) : one (p ++ r') = one (p ++ r) := by
  obtain ⟨c, q, rfl⟩ : ∃ c q, p = c :: q := by cases p with | nil => exact absurd rfl hp | cons c q => exact ⟨c, q, rfl⟩
  have g0 : ∀ x : List UInt8, (c :: q ++ x).getD 0 0 = c := fun x => by simp
  have stop : ∀ {P : UInt8 → Bool}, P 32 = false → P 10 = false → (r = [] ∨ P (r.head?.getD 0) = false) → (r' = [] ∨ P (r'.head?.getD 0) = false) := by
    intro P h32 h10 h
    rcases hr with e | e | e | e
    · rcases h with rfl | h
      · left; cases r' with | nil => rfl | cons _ _ => simp at e
      · right; rw [e]; exact h
    · right; rw [e]; exact h32
    · right; rw [e]; exact h10
    · left; exact e
  by_cases h1 : isLet c = true
  · rw [one_word (s := c :: q ++ r) (by rw [g0]; exact h1)] at hn h ⊢
    rw [one_word (s := c :: q ++ r') (by rw [g0]; exact h1)]
    have hn : runL isWd (c :: q ++ r) = (c :: q).length := hn
    have hn' := run_cut (r' := r') hn (stop (by decide) (by decide) (run_stop hn))
    rw [hn, hn', List.take_left, List.take_left]
  · have h1 : isLet c = false := by simpa using h1
    by_cases h2 : isDig c = true
    · rw [one_num (s := c :: q ++ r) (by rw [g0]; exact h1) (by rw [g0]; exact h2)] at hn h ⊢
      rw [one_num (s := c :: q ++ r') (by rw [g0]; exact h1) (by rw [g0]; exact h2)]
      split at h
      · cases h
      · rename_i h3
        rw [if_neg h3] at hn ⊢
        have hn : runL isDig (c :: q ++ r) = (c :: q).length := hn
        have hn' := run_cut (r' := r') hn (stop (by decide) (by decide) (run_stop hn))
        rw [hn] at h3 ⊢
        rw [hn', List.take_left, List.take_left, if_neg]
        intro hb
        apply h3
        unfold numBad at hb ⊢
        rw [g0, List.take_left] at hb ⊢
        rcases hb with hb | hb | hb
        · exact .inl hb
        · exact .inr (.inl hb)
        · refine .inr (.inr ?_)
          rw [getD_head] at hb ⊢
          rcases hr with e | e | e | e
          · rw [← e]
            refine ⟨?_, hb.2⟩
            have hb1 := hb.1
            cases r with
            | nil => cases r' with
              | nil => simp at hb1
              | cons _ _ => simp at e
            | cons _ _ => simp
          · rw [e] at hb; exact absurd hb.2 (by decide)
          · rw [e] at hb; exact absurd hb.2 (by decide)
          · subst e; simp at hb
    · have h2 : isDig c = false := by simpa using h2
      by_cases h3 : c = 39
      · rw [one_text (s := c :: q ++ r) (by rw [g0]; exact h3)] at hn h ⊢
        rw [one_text (s := c :: q ++ r') (by rw [g0]; exact h3)]
        simp only [List.cons_append, List.drop_succ_cons, List.drop_zero] at hn h ⊢
        cases hq : quo (q ++ r) with
        | none => rw [hq] at h; cases h
        | some y =>
          rw [hq] at h hn
          simp only at h hn ⊢
          split at h
          · cases h
          · rename_i h4
            rw [if_neg h4] at hn ⊢
            have hy : y.2 = q.length := by simp at hn; exact hn
            have := quo_cut q (t := y.1) (r := r) (r' := r') (by rw [hq, ← hy]) (by
              rcases hr with e | e | e | e
              · exact .inl e
              · right; rw [e]; decide
              · right; rw [e]; decide
              · right; subst e; simp)
            rw [this]
            simp only [if_neg h4, hy]
      · rw [one_sign (s := c :: q ++ r) (by rw [g0]; exact h1) (by rw [g0]; exact h2) (by rw [g0]; exact h3)] at hn h ⊢
        rw [one_sign (s := c :: q ++ r') (by rw [g0]; exact h1) (by rw [g0]; exact h2) (by rw [g0]; exact h3)]
        split at h
        · cases h
        · rename_i h4
          rw [if_neg h4] at hn ⊢
          have hn : sgnL (c :: q ++ r) = (c :: q).length := hn
          have hn' : sgnL (c :: q ++ r') = (c :: q).length := by
            have hs2 : sgnL (c :: q ++ r) ≤ 2 := sgn_two _ _
            cases q with
            | cons x q => rw [← hn]; simp [sgnL]
            | nil =>
              have e1 : ∀ x : List UInt8, ([c] ++ x).getD 1 0 = x.head?.getD 0 := fun x => getD_head [c] x
              have hn : sgn (([c] ++ r).getD 0 0).toNat (([c] ++ r).getD 1 0).toNat = 1 := hn
              show sgn (([c] ++ r').getD 0 0).toNat (([c] ++ r').getD 1 0).toNat = 1
              rw [e1] at hn ⊢
              rw [g0] at hn ⊢
              rcases hr with e | e | e | e
              · rw [e]; exact hn
              · rw [e]; exact sgn_other hn (.inr (.inl rfl))
              · rw [e]; exact sgn_other hn (.inr (.inr rfl))
              · subst e; exact sgn_other hn (.inl rfl)
          rw [hn, hn', if_neg (by simp), List.take_left, List.take_left]
/-- A fault that is no text's stays one, whatever follows the line's end. -/
theorem one_bad {c : UInt8} {q t : List UInt8} (h : (one (c :: q ++ [10])).e = 180) (h3 : c ≠ 39) : (one (c :: q ++ 10 :: t)).e = 180 := by
  have g0 : ∀ x : List UInt8, (c :: q ++ x).getD 0 0 = c := fun x => by simp
  by_cases h1 : isLet c = true
  · rw [one_word (s := c :: q ++ [10]) (by rw [g0]; exact h1)] at h; cases h
  · have h1 : isLet c = false := by simpa using h1
    by_cases h2 : isDig c = true
    · rw [one_num (s := c :: q ++ [10]) (by rw [g0]; exact h1) (by rw [g0]; exact h2)] at h
      rw [one_num (s := c :: q ++ 10 :: t) (by rw [g0]; exact h1) (by rw [g0]; exact h2)]
      split at h
      · rename_i hb
        rw [if_pos]
        have hr : runL isDig (c :: q ++ 10 :: t) = runL isDig (c :: q ++ [10]) := by
          have hl := run_le isDig (c :: q ++ [10])
          have hlt : runL isDig (c :: q ++ [10]) < (c :: q ++ [10]).length := by
            rcases Nat.lt_or_ge (runL isDig (c :: q ++ [10])) (c :: q ++ [10]).length with e | e
            · exact e
            · exfalso
              have e9 : (c :: q).length < runL isDig (c :: q ++ [10]) := by simp at e ⊢; omega
              have := run_at isDig (c :: q ++ [10]) (c :: q).length e9
              rw [getD_head] at this
              exact absurd this (by decide)
          have hle : runL isDig (c :: q ++ [10]) ≤ (c :: q).length := by simp at hlt ⊢; omega
          have he := run_end _ _ hlt
          have key : ∀ i, i ≤ (c :: q).length → (c :: q ++ 10 :: t).getD i 0 = (c :: q ++ [10]).getD i 0 := fun i hi => by
            rcases Nat.lt_or_ge i (c :: q).length with e | e
            · rw [getD_app _ _ _ e, getD_app _ _ _ e]
            · obtain rfl : i = (c :: q).length := by omega
              rw [getD_head, getD_head]; rfl
          refine run_is _ _ _ (by simp at hle ⊢; omega) (fun i hi => ?_) (fun _ => ?_)
          · rw [key i (by omega)]; exact run_at _ _ i hi
          · rw [key _ hle]; exact he
        have hle : runL isDig (c :: q ++ [10]) ≤ (c :: q).length := by
          rcases Nat.lt_or_ge (c :: q).length (runL isDig (c :: q ++ [10])) with e | e
          · exfalso
            have := run_at isDig (c :: q ++ [10]) (c :: q).length e
            rw [getD_head] at this
            exact absurd this (by decide)
          · exact e
        unfold numBad at hb ⊢
        rw [hr, g0] at *
        rw [List.take_append_of_le_length hle] at hb ⊢
        rcases hb with hb | hb | hb
        · exact .inl hb
        · exact .inr (.inl hb)
        · refine .inr (.inr ⟨by simp at hle ⊢; omega, ?_⟩)
          rcases Nat.lt_or_ge (runL isDig (c :: q ++ [10])) (c :: q).length with e | e
          · rw [getD_app _ _ _ e]
            have := hb.2
            rwa [getD_app _ _ _ e] at this
          · have e : runL isDig (c :: q ++ [10]) = (c :: q).length := by omega
            rw [e] at hb ⊢
            rw [getD_head] at hb
            exact absurd hb.2 (by decide)
      · cases h
    · have h2 : isDig c = false := by simpa using h2
      rw [one_sign (s := c :: q ++ [10]) (by rw [g0]; exact h1) (by rw [g0]; exact h2) (by rw [g0]; exact h3)] at h
      rw [one_sign (s := c :: q ++ 10 :: t) (by rw [g0]; exact h1) (by rw [g0]; exact h2) (by rw [g0]; exact h3)]
      have e : sgnL (c :: q ++ 10 :: t) = sgnL (c :: q ++ [10]) := by
        cases q <;> simp [sgnL]
      rw [e]
      split at h
      · rename_i h4; rw [if_pos h4]
      · cases h
end Go.WK
