/- Values as text: numerals, quoted texts, there and back. Plain: no program in sight. -/
import Derived.Test.YtgogkkkacpacgaaDoorValue1
import Derived.Lib.Atoi
import Derived.Lib.ParseIntBTie
import Derived.Lib.ParseIntBCases
import Derived.Lib.ItoaNum
import Derived.Lib.ReplaceLaws
namespace Go.WK
open Go.RowKit Go.Lib

/-! ### Numerals -/
def sgnd (u : Nat) (below : Bool) : Option Int := if below = true then (if u ≤ 9223372036854775808 then some (-(u : Int)) else none) else (if u < 9223372036854775808 then some (u : Int) else none)
/-- A numeral behind its sign. -/
def magR (d : List UInt8) (below : Bool) : Option Int := if d = [] ∨ 19 < d.length ∨ (d.head? = some 48 ∧ (1 < d.length ∨ below = true)) then none else (decFrom 0 d).bind fun u => sgnd u below
def numR : List UInt8 → Option Int
  | [] => none
  | c :: r => if c = 45 then magR r true else magR (c :: r) false

theorem decFrom_snoc (c : UInt8) : ∀ (l : List UInt8) (acc : Nat), decFrom acc (l ++ [c]) = (decFrom acc l).bind fun n => (digitVal c).map fun d => n * 10 + d
  | [], acc => by
    simp only [List.nil_append, decFrom, Option.bind_some]
    cases digitVal c <;> rfl
  | b :: l, acc => by
    simp only [List.cons_append, decFrom]
    cases digitVal b with
    | none => rfl
    | some d => exact decFrom_snoc c l _
theorem decFrom_ge : ∀ (l : List UInt8) (acc n : Nat), decFrom acc l = some n → acc * 10 ^ l.length ≤ n
  | [], acc, n, h => by simp only [decFrom, Option.some.injEq] at h; simp [h]
  | b :: l, acc, n, h => by
    simp only [decFrom] at h
    cases hb : digitVal b with
    | none => simp [hb] at h
    | some d =>
      simp only [hb] at h
      have := decFrom_ge l _ n h
      have h2 : acc * 10 * 10 ^ l.length ≤ (acc * 10 + d) * 10 ^ l.length := Nat.mul_le_mul_right _ (by omega)
      rw [List.length_cons, Nat.pow_succ, Nat.mul_comm (10 ^ l.length) 10, ← Nat.mul_assoc]
      omega
theorem digit_of {d : Nat} (h : d < 10) : digitVal (UInt8.ofNat (48 + d)) = some d := by
  have : (UInt8.ofNat (48 + d)).toNat = 48 + d := by simp; omega
  unfold digitVal
  rw [this, if_pos (by omega)]
  congr 1; omega
theorem of_digit {c : UInt8} {d : Nat} (h : digitVal c = some d) : d < 10 ∧ UInt8.ofNat (48 + d) = c := by
  obtain ⟨h1, h2, h3⟩ := digitVal_eq h
  refine ⟨by omega, ?_⟩
  apply UInt8.toNat_inj.1
  simp; omega
theorem dec_small {u : Nat} (h : u < 10) : decDigits u = [UInt8.ofNat (48 + u)] := decDigits_one h
theorem dec_big {u : Nat} (h : ¬ u < 10) : decDigits u = decDigits (u / 10) ++ [UInt8.ofNat (48 + u % 10)] := by rw [decDigits, dif_neg h]
theorem dec_ne (u : Nat) : decDigits u ≠ [] := by
  by_cases h : u < 10
  · rw [dec_small h]; simp
  · rw [dec_big h]; simp
theorem decFrom_dec (u : Nat) : decFrom 0 (decDigits u) = some u := by
  induction u using Nat.strongRecOn with
  | _ u ih =>
    by_cases h : u < 10
    · rw [dec_small h]
      simp only [decFrom, digit_of h]
      simp
    · rw [dec_big h, decFrom_snoc, ih (u / 10) (by omega), Option.bind_some, digit_of (Nat.mod_lt _ (by omega))]
      simp only [Option.map_some]
      congr 1; omega
theorem head_app {l : List UInt8} {c : UInt8} (h : l ≠ []) : (l ++ [c]).head? = l.head? := by
  cases l with
  | nil => exact absurd rfl h
  | cons a r => rfl
theorem dec_head (u : Nat) : (decDigits u).head? = some 48 → u = 0 := by
  induction u using Nat.strongRecOn with
  | _ u ih =>
    by_cases h : u < 10
    · rw [dec_small h]
      intro e
      simp only [List.head?_cons, Option.some.injEq] at e
      have := congrArg UInt8.toNat e
      simp at this
      omega
    · rw [dec_big h, head_app (dec_ne _)]
      intro e
      have := ih (u / 10) (by omega) e
      omega
theorem nDigits_le : ∀ (k u : Nat), u < 10 ^ (k + 1) → nDigits u ≤ k + 1
  | 0, u, h => by rw [nDigits_small (by simpa using h)]; omega
  | k + 1, u, h => by
    by_cases h2 : u < 10
    · rw [nDigits_small h2]; omega
    · rw [nDigits_big h2]
      have := nDigits_le k (u / 10) (by rw [Nat.pow_succ] at h; omega)
      omega
theorem dec_len {u : Nat} (h : u ≤ 9223372036854775808) : (decDigits u).length ≤ 19 := by
  rw [decDigits_length]
  exact nDigits_le 18 u (by have : (10 : Nat) ^ 19 = 10000000000000000000 := by decide
                            omega)
/-- Digits that open with no nought are the digits of their number. -/
theorem dec_back : ∀ (k : Nat) (l : List UInt8) (u : Nat), l.length = k → l ≠ [] → (l.head? = some 48 → l.length ≤ 1) → decFrom 0 l = some u → decDigits u = l := by
  intro k
  induction k with
  | zero => intro l u hl hne; exact absurd (List.length_eq_zero_iff.1 hl) hne
  | succ k ih =>
    intro l u hl hne hh hd
    obtain ⟨m, c, rfl⟩ : ∃ m c, l = m ++ [c] := ⟨l.dropLast, l.getLast hne, (List.dropLast_concat_getLast hne).symm⟩
    rw [decFrom_snoc] at hd
    cases hm : decFrom 0 m with
    | none => simp [hm] at hd
    | some v =>
      rw [hm, Option.bind_some] at hd
      cases hc : digitVal c with
      | none => simp [hc] at hd
      | some d =>
        rw [hc] at hd
        simp only [Option.map_some, Option.some.injEq] at hd
        obtain ⟨h10, hcd⟩ := of_digit hc
        cases m with
        | nil =>
          simp only [decFrom, Option.some.injEq] at hm
          subst hm
          subst hd
          rw [dec_small (by omega)]
          simpa using hcd
        | cons a r =>
          have hl' : (a :: r).length = k := by simpa using hl
          have hne' : a ≠ 48 := fun e => by
            have := hh (by simp [e])
            simp at this
          have hv : 1 ≤ v := by
            simp only [decFrom] at hm
            cases ha : digitVal a with
            | none => simp [ha] at hm
            | some e =>
              simp only [ha] at hm
              have h1 := decFrom_ge r _ v hm
              obtain ⟨q1, q2, q3⟩ := digitVal_eq ha
              have h2 : a.toNat ≠ 48 := fun e' => hne' (UInt8.toNat_inj.1 (by simpa using e'))
              have h3 : 1 ≤ 10 ^ r.length := Nat.one_le_pow _ _ (by decide)
              have h4 : 1 * 1 ≤ (0 * 10 + e) * 10 ^ r.length := Nat.mul_le_mul (by omega) h3
              omega
          have hrec := ih (a :: r) v hl' (by simp) (fun e => by simp at e; exact absurd e hne') hm
          rw [dec_big (by omega), ← hd, show (v * 10 + d) / 10 = v by omega, show (v * 10 + d) % 10 = d by omega, hrec, hcd]
theorem parseM_ok : ∀ (l : List UInt8) (acc u : Nat), decFrom acc l = some u → u ≤ 18446744073709551615 → parseUintM 18446744073709551615 acc l = .ok u
  | [], acc, u, h, _ => by simp only [decFrom, Option.some.injEq] at h; simp [parseUintM, h]
  | c :: r, acc, u, h, hu => by
    simp only [decFrom] at h
    cases hc : digitVal c with
    | none => simp [hc] at h
    | some d =>
      simp only [hc] at h
      obtain ⟨q1, q2, q3⟩ := digitVal_eq hc
      have h1 := decFrom_ge r _ u h
      have h3 : 1 ≤ 10 ^ r.length := Nat.one_le_pow _ _ (by decide)
      have h4 : (acc * 10 + d) * 1 ≤ (acc * 10 + d) * 10 ^ r.length := Nat.mul_le_mul_left _ h3
      unfold parseUintM
      rw [if_pos ⟨q1, q2⟩, if_neg (by omega), if_neg (by omega), ← q3]
      exact parseM_ok r _ u h hu
theorem itoa_neg {n : Int} (h : n < 0) : itoa n = 45 :: decDigits n.natAbs := by simp [itoa, h]
theorem itoa_pos {n : Int} (h : ¬ n < 0) : itoa n = decDigits n.toNat := by simp [itoa, h]
theorem dec_first (u : Nat) : ∃ c r, decDigits u = c :: r ∧ 48 ≤ c.toNat ∧ c.toNat ≤ 57 := by
  cases h : decDigits u with
  | nil => exact absurd h (dec_ne u)
  | cons c r =>
    have hd := decFrom_dec u
    rw [h] at hd
    simp only [decFrom] at hd
    cases hc : digitVal c with
    | none => simp [hc] at hd
    | some d => obtain ⟨q1, q2, _⟩ := digitVal_eq hc; exact ⟨c, r, rfl, q1, q2⟩
/-- What a number's digits parse as. -/
theorem parse_itoa {n : Int} (h : inR n = true) : parseIntB 64 (itoa n) = .ok n := by
  obtain ⟨h1, h2⟩ := inR_iff.1 h
  have key : ∀ u : Nat, u ≤ 9223372036854775808 → parseUintB 64 (decDigits u) = .ok u := fun u hu => by
    unfold parseUintB
    rw [if_neg (dec_ne u)]
    exact parseM_ok _ 0 u (decFrom_dec u) (by omega)
  by_cases hn : n < 0
  · rw [itoa_neg hn, parseIntB_minus, key _ (by omega)]
    unfold signedC
    simp only
    rw [if_neg (by have : (2 : Nat) ^ (64 - 1) = 9223372036854775808 := by decide
                   omega)]
    congr 1; omega
  · obtain ⟨c, r, e, q1, q2⟩ := dec_first n.toNat
    have k := key n.toNat (by omega)
    rw [itoa_pos hn]
    rw [e] at k ⊢
    rw [parseIntB_plain _ _ _ (by omega) (by omega), k]
    unfold signlessC
    simp only
    rw [if_neg (by have : (2 : Nat) ^ (64 - 1) = 9223372036854775808 := by decide
                   omega)]
    congr 1; omega
theorem magR_dec {u : Nat} {below : Bool} (hu : u ≤ 9223372036854775808) (h0 : below = true → u ≠ 0) : magR (decDigits u) below = sgnd u below := by
  unfold magR
  rw [if_neg, decFrom_dec]
  · rfl
  · rintro (h | h | ⟨h, h'⟩)
    · exact dec_ne u h
    · have := dec_len hu; omega
    · have hz := dec_head u h
      subst hz
      rcases h' with h' | h'
      · rw [dec_small (by omega)] at h'; simp at h'
      · exact h0 h' rfl
theorem numR_itoa {n : Int} (h : inR n = true) : numR (itoa n) = some n := by
  obtain ⟨h1, h2⟩ := inR_iff.1 h
  by_cases hn : n < 0
  · rw [itoa_neg hn]
    simp only [numR, if_true]
    rw [magR_dec (by omega) (fun _ => by omega)]
    unfold sgnd
    rw [if_pos rfl, if_pos (by omega)]
    congr 1; omega
  · obtain ⟨c, r, e, q1, q2⟩ := dec_first n.toNat
    rw [itoa_pos hn, e]
    have : c ≠ 45 := fun e' => by subst e'; simp at q1
    simp only [numR, if_neg this]
    rw [← e, magR_dec (by omega) (fun h => by cases h)]
    unfold sgnd
    rw [if_neg (by decide), if_pos (by omega)]
    congr 1; omega
theorem magR_some {d : List UInt8} {below : Bool} {n : Int} (h : magR d below = some n) : ∃ u, decDigits u = d ∧ sgnd u below = some n ∧ (below = true → u ≠ 0) := by
  unfold magR at h
  split at h
  · cases h
  · rename_i hc
    have hc1 : d ≠ [] := fun e => hc (.inl e)
    have hc2 : d.head? = some 48 → ¬ (1 < d.length ∨ below = true) := fun e e' => hc (.inr (.inr ⟨e, e'⟩))
    cases hd : decFrom 0 d with
    | none => simp [hd] at h
    | some u =>
      rw [hd, Option.bind_some] at h
      have hb := dec_back d.length d u rfl hc1 (fun e => by have := hc2 e; omega) hd
      refine ⟨u, hb, h, fun hbl hz => ?_⟩
      subst hz
      rw [dec_small (by omega)] at hb
      exact hc2 (by rw [← hb]; rfl) (.inr hbl)
theorem numR_some {s : List UInt8} {n : Int} (h : numR s = some n) : s = itoa n ∧ inR n = true := by
  cases s with
  | nil => cases h
  | cons c r =>
    simp only [numR] at h
    split at h
    · rename_i hc
      obtain ⟨u, h1, h2, h3⟩ := magR_some h
      have h3 := h3 rfl
      unfold sgnd at h2
      rw [if_pos rfl] at h2
      split at h2
      · simp only [Option.some.injEq] at h2
        refine ⟨?_, inR_iff.2 (by omega)⟩
        rw [itoa_neg (by omega), show n.natAbs = u by omega, h1, hc]
      · cases h2
    · rename_i hc
      obtain ⟨u, h1, h2, _⟩ := magR_some h
      unfold sgnd at h2
      rw [if_neg (by decide)] at h2
      split at h2
      · simp only [Option.some.injEq] at h2
        refine ⟨?_, inR_iff.2 (by omega)⟩
        rw [itoa_pos (by omega), show n.toNat = u by omega, h1]
      · cases h2
/-- A numeral is what parses, and is written so. -/
theorem numR_iff {s : List UInt8} {n : Int} : numR s = some n ↔ parseIntB 64 s = .ok n ∧ itoa n = s := by
  constructor
  · intro h
    obtain ⟨h1, h2⟩ := numR_some h
    exact ⟨by rw [h1]; exact parse_itoa h2, h1.symm⟩
  · rintro ⟨h1, h2⟩
    have hb := parseIntB_bounds h1
    have : (2 : Nat) ^ (64 - 1) = 9223372036854775808 := by decide
    rw [this] at hb
    rw [← h2]
    exact numR_itoa (inR_iff.2 (by omega))

/-! ### Quoted texts -/
def dbl : List UInt8 → List UInt8
  | [] => []
  | c :: r => if c = 39 then 39 :: 39 :: dbl r else c :: dbl r
/-- Of quotes that stand twice, one each. -/
def und : List UInt8 → List UInt8
  | [] => []
  | [c] => [c]
  | c :: d :: r => if c = 39 ∧ d = 39 then 39 :: und r else c :: und (d :: r)
/-- The text whose quotes stand twice here; none: a quote stands alone. -/
def undO : List UInt8 → Option (List UInt8)
  | [] => some []
  | [c] => if c = 39 then none else some [c]
  | c :: d :: r => if c = 39 then (if d = 39 then (undO r).map (39 :: ·) else none) else (undO (d :: r)).map (c :: ·)
theorem undO_plain {c : UInt8} (h : c ≠ 39) (l : List UInt8) : undO (c :: l) = (undO l).map (c :: ·) := by
  cases l with
  | nil => simp [undO, h]
  | cons d r => simp [undO, h]
theorem und_plain {c : UInt8} (h : c ≠ 39) (l : List UInt8) : und (c :: l) = c :: und l := by
  cases l with
  | nil => simp [und]
  | cons d r => simp [und, h]
theorem undO_dbl : ∀ t : List UInt8, undO (dbl t) = some t
  | [] => rfl
  | c :: r => by
    unfold dbl
    split
    · rename_i h; subst h; simp [undO, undO_dbl r]
    · rename_i h; rw [undO_plain h, undO_dbl r]; rfl
theorem undO_some : ∀ (m t : List UInt8), undO m = some t → dbl t = m ∧ und m = t
  | [], t, h => by simp only [undO, Option.some.injEq] at h; subst h; exact ⟨rfl, rfl⟩
  | [c], t, h => by
    simp only [undO] at h
    split at h
    · cases h
    · rename_i hc
      simp only [Option.some.injEq] at h
      subst h
      simp [dbl, hc, und]
  | c :: d :: r, t, h => by
    simp only [undO] at h
    split at h
    · rename_i hc
      split at h
      · rename_i hd
        cases hr : undO r with
        | none => simp [hr] at h
        | some t' =>
          rw [hr] at h
          simp only [Option.map_some, Option.some.injEq] at h
          subst h
          obtain ⟨h1, h2⟩ := undO_some r t' hr
          subst hc hd
          simp [dbl, und, h1, h2]
      · cases h
    · rename_i hc
      cases hr : undO (d :: r) with
      | none => simp [hr] at h
      | some t' =>
        rw [hr] at h
        simp only [Option.map_some, Option.some.injEq] at h
        subst h
        obtain ⟨h1, h2⟩ := undO_some (d :: r) t' hr
        rw [und_plain hc]
        simp [dbl, hc, h1, h2]
/-- Doubling what was halved gives the text back just where it is well formed. -/
theorem dbl_und {m : List UInt8} : dbl (und m) = m ↔ undO m = some (und m) := by
  constructor
  · intro h
    have := undO_dbl (und m)
    rwa [h] at this
  · intro h
    exact (undO_some m _ h).1
theorem dbl_len : ∀ t : List UInt8, (dbl t).length ≤ 2 * t.length
  | [] => by simp [dbl]
  | c :: r => by
    have := dbl_len r
    unfold dbl
    split <;> simp <;> omega

/-! ### ReplaceAll -/
theorem index_cons (c : UInt8) (s old : List UInt8) (h : old.isPrefixOf (c :: s) = false) : index (c :: s) old = if index s old = -1 then -1 else index s old + 1 := by
  simp only [index, h, beq_iff_eq]
  simp
theorem index_hit0 (s old : List UInt8) (h : old.isPrefixOf s = true) : index s old = 0 := by
  cases s with
  | nil => cases old with
    | nil => rfl
    | cons a r => simp at h
  | cons c s => simp [index, h]
theorem count_cons (c : UInt8) (s old : List UInt8) (ho : old ≠ []) (h : old.isPrefixOf (c :: s) = false) : count (c :: s) old = count s old := by
  have hi := index_cons c s old h
  by_cases hm : index s old = -1
  · rw [if_pos hm] at hi
    rw [count_miss hi, count_miss hm]
  · rw [if_neg hm] at hi
    have hge := index_ge s old
    obtain ⟨i, hi'⟩ : ∃ i : Nat, index s old = i := ⟨(index s old).toNat, by omega⟩
    rw [hi'] at hi
    rw [count_hit (i := i + 1) ho (by rw [hi]; omega), count_hit (i := i) ho hi']
    rw [show i + 1 + old.length = (i + old.length) + 1 by omega, List.drop_succ_cons]
theorem replaceK_cons (c : UInt8) (s old new : List UInt8) (h : old.isPrefixOf (c :: s) = false) : ∀ k, k ≤ count s old → replaceK old new k (c :: s) = c :: replaceK old new k s
  | 0, _ => rfl
  | k + 1, hk => by
    obtain ⟨i, hi⟩ := index_of_count (s := s) (old := old) (by omega)
    have hi2 : index (c :: s) old = ((i + 1 : Nat) : Int) := by
      rw [index_cons c s old h, hi, if_neg (by omega)]; omega
    rw [replaceK_hit _ _ _ _ _ hi2, replaceK_hit _ _ _ _ _ hi]
    rw [show i + 1 + old.length = (i + old.length) + 1 by omega, List.drop_succ_cons]
    simp
def repA (old new s : List UInt8) : List UInt8 := replaceK old new (count s old) s
theorem repA_cons (c : UInt8) (s old new : List UInt8) (ho : old ≠ []) (h : old.isPrefixOf (c :: s) = false) : repA old new (c :: s) = c :: repA old new s := by
  unfold repA
  rw [count_cons c s old ho h]
  exact replaceK_cons c s old new h _ (Nat.le_refl _)
theorem repA_hit (s old new : List UInt8) (ho : old ≠ []) (h : old.isPrefixOf s = true) : repA old new s = new ++ repA old new (s.drop old.length) := by
  unfold repA
  have hi := index_hit0 s old h
  rw [count_hit (i := 0) ho hi, Nat.add_comm, replaceK_hit (i := 0) _ _ _ _ hi]
  simp
theorem repA_nil (old new : List UInt8) (ho : old ≠ []) : repA old new [] = [] := by
  unfold repA
  have : index [] old = -1 := by cases old with
    | nil => exact absurd rfl ho
    | cons a r => rfl
  rw [count_miss this]
  rfl
theorem repA_dbl : ∀ s : List UInt8, repA [39] [39, 39] s = dbl s
  | [] => repA_nil _ _ (by simp)
  | c :: r => by
    by_cases h : c = 39
    · subst h
      rw [repA_hit _ _ _ (by simp) (by simp)]
      simp [dbl, repA_dbl r]
    · have hp : [39].isPrefixOf (c :: r) = false := by simp [List.isPrefixOf]; exact fun e => h e.symm
      rw [repA_cons _ _ _ _ (by simp) hp, repA_dbl r]
      simp [dbl, h]
theorem repA_und : ∀ s : List UInt8, repA [39, 39] [39] s = und s
  | [] => repA_nil _ _ (by simp)
  | [c] => by
    have hp : [39, 39].isPrefixOf [c] = false := by simp [List.isPrefixOf]
    rw [repA_cons _ _ _ _ (by simp) hp, repA_nil _ _ (by simp)]
    rfl
  | c :: d :: r => by
    by_cases h : c = 39 ∧ d = 39
    · obtain ⟨rfl, rfl⟩ := h
      rw [repA_hit _ _ _ (by simp) (by simp)]
      simp [und, repA_und r]
    · have hp : [39, 39].isPrefixOf (c :: d :: r) = false := by simp [List.isPrefixOf]; exact fun e e' => h ⟨e.symm, e'.symm⟩
      rw [repA_cons _ _ _ _ (by simp) hp, repA_und (d :: r)]
      simp [und, h]
theorem replaceAll_eq {s old new : List UInt8} (h : old ≠ new) : replace s old new (-1) = repA old new s := by
  unfold replace repA replaceNum
  rw [if_neg (by simpa using h), if_pos (.inl (by decide))]

/-! ### Print and Read -/
def prV (v : Val) : List UInt8 × Int := if may v = true then (if v.k = 1 then itoa v.n else if v.k = 2 then 39 :: (dbl v.s ++ [39]) else if v.k = 3 then (if v.n = 1 then [116, 114, 117, 101] else [102, 97, 108, 115, 101]) else [110, 117, 108, 108], 0) else ([], 5)
def txtR (s : List UInt8) : Option (List UInt8) := if s.length < 2 ∨ s.getD 0 0 ≠ 39 ∨ s.getD (s.length - 1) 0 ≠ 39 then none else undO ((s.drop 1).take (s.length - 2))
def rdV (s : List UInt8) : Val × Int := if s = [110, 117, 108, 108] then (Val.zero, 0) else if s = [102, 97, 108, 115, 101] ∨ s = [116, 114, 117, 101] then (truth (decide (s = [116, 114, 117, 101])), 0) else
  match numR s with
  | some n => (⟨1, n, []⟩, 0)
  | none => match txtR s with
    | some t => if t.length ≤ 64 then (⟨2, 0, t⟩, 0) else (Val.zero, 5)
    | none => (Val.zero, 5)
/-- As the program reads. -/
def candP (s : List UInt8) : Option Val := if 2 ≤ s.length ∧ s.getD 0 0 = 39 then some ⟨2, 0, und ((s.drop 1).take (s.length - 2))⟩ else match parseIntB 64 s with | .ok n => some ⟨1, n, []⟩ | _ => none
def rdP (s : List UInt8) : Val × Int := if s = [110, 117, 108, 108] then (Val.zero, 0) else if s = [102, 97, 108, 115, 101] ∨ s = [116, 114, 117, 101] then (truth (decide (s = [116, 114, 117, 101])), 0) else
  match candP s with
  | some v => if (prV v).2 = 0 ∧ (prV v).1 = s then (v, 0) else (Val.zero, 5)
  | none => (Val.zero, 5)
theorem pr_text (t : List UInt8) : prV ⟨2, 0, t⟩ = if t.length ≤ 64 then (39 :: (dbl t ++ [39]), 0) else ([], 5) := by
  by_cases h : t.length ≤ 64 <;> simp [prV, may, h]
theorem pr_num (n : Int) : prV ⟨1, n, []⟩ = (itoa n, 0) := by simp [prV, may]
theorem numR_quote {s : List UInt8} (h : s.getD 0 0 = 39) : numR s = none := by
  cases s with
  | nil => rfl
  | cons c r =>
    have hc : c = 39 := by simpa using h
    subst hc
    simp only [numR]
    rw [if_neg (by decide)]
    have hd : decFrom 0 (39 :: r) = none := by simp [decFrom, digitVal]
    unfold magR
    split
    · rfl
    · rw [hd]; rfl
theorem mid_eq {s : List UInt8} {x : List UInt8} (h : 2 ≤ s.length) (h0 : s.getD 0 0 = 39) : 39 :: (x ++ [39]) = s ↔ s.getD (s.length - 1) 0 = 39 ∧ x = (s.drop 1).take (s.length - 2) := by
  have hs : s = s.getD 0 0 :: ((s.drop 1).take (s.length - 2) ++ [s.getD (s.length - 1) 0]) := by
    apply List.ext_getElem?
    intro i
    rcases i with _ | i
    · cases s with
      | nil => simp at h
      | cons a r => simp
    · rw [List.getElem?_cons_succ]
      rcases Nat.lt_trichotomy i (s.length - 2) with hi | hi | hi
      · rw [List.getElem?_append_left (by simp; omega), List.getElem?_take_of_lt hi, List.getElem?_drop, Nat.add_comm]
      · rw [List.getElem?_append_right (by simp; omega)]
        simp only [List.length_take, List.length_drop]
        rw [show i - min (s.length - 2) (s.length - 1) = 0 by omega, show i + 1 = s.length - 1 by omega]
        simp [List.getD, List.getElem?_eq_getElem (show s.length - 1 < s.length by omega)]
      · rw [List.getElem?_eq_none (by omega), List.getElem?_eq_none (by simp; omega)]
  constructor
  · intro e
    rw [hs, h0] at e
    simp only [List.cons.injEq, true_and] at e
    have := List.append_inj' e rfl
    exact ⟨by simpa using this.2.symm, this.1⟩
  · rintro ⟨h1, rfl⟩
    conv => rhs; rw [hs, h0, h1]
/-- The program reads as the document says. -/
theorem rdP_eq (s : List UInt8) : rdP s = rdV s := by
  unfold rdP rdV
  by_cases e1 : s = [110, 117, 108, 108]
  · rw [if_pos e1, if_pos e1]
  rw [if_neg e1, if_neg e1]
  by_cases e2 : s = [102, 97, 108, 115, 101] ∨ s = [116, 114, 117, 101]
  · rw [if_pos e2, if_pos e2]
  rw [if_neg e2, if_neg e2]
  unfold candP
  by_cases hq : 2 ≤ s.length ∧ s.getD 0 0 = 39
  · rw [if_pos hq, numR_quote hq.2]
    have key : ((prV ⟨2, 0, und ((s.drop 1).take (s.length - 2))⟩).2 = 0 ∧ (prV ⟨2, 0, und ((s.drop 1).take (s.length - 2))⟩).1 = s) ↔ (s.getD (s.length - 1) 0 = 39 ∧ undO ((s.drop 1).take (s.length - 2)) = some (und ((s.drop 1).take (s.length - 2))) ∧ (und ((s.drop 1).take (s.length - 2))).length ≤ 64) := by
      rw [pr_text]
      by_cases h64 : (und ((s.drop 1).take (s.length - 2))).length ≤ 64
      · rw [if_pos h64]
        constructor
        · rintro ⟨_, h2⟩
          have h3 := (mid_eq hq.1 hq.2).1 h2
          exact ⟨h3.1, dbl_und.1 h3.2, h64⟩
        · rintro ⟨h1, h2, _⟩
          exact ⟨rfl, (mid_eq hq.1 hq.2).2 ⟨h1, dbl_und.2 h2⟩⟩
      · rw [if_neg h64]
        constructor
        · rintro ⟨h1, _⟩; simp at h1
        · rintro ⟨_, _, h⟩; exact absurd h h64
    show (if (prV ⟨2, 0, und ((s.drop 1).take (s.length - 2))⟩).2 = 0 ∧ (prV ⟨2, 0, und ((s.drop 1).take (s.length - 2))⟩).1 = s then ((⟨2, 0, und ((s.drop 1).take (s.length - 2))⟩ : Val), (0 : Int)) else (Val.zero, 5)) = match txtR s with
      | some t => if t.length ≤ 64 then (⟨2, 0, t⟩, 0) else (Val.zero, 5)
      | none => (Val.zero, 5)
    by_cases hl : s.getD (s.length - 1) 0 = 39
    · have et : txtR s = undO ((s.drop 1).take (s.length - 2)) := by
        unfold txtR
        exact if_neg (fun h => by rcases h with h | h | h; omega; exact h hq.2; exact h hl)
      rw [et]
      cases ho : undO ((s.drop 1).take (s.length - 2)) with
      | none =>
        refine if_neg (fun h => ?_)
        have := (key.1 h).2.1
        rw [ho] at this
        cases this
      | some t =>
        have ht := (undO_some _ _ ho).2
        rw [ht] at key ⊢
        by_cases h64 : t.length ≤ 64
        · rw [if_pos (key.2 ⟨hl, ho, h64⟩)]
          exact (if_pos h64).symm
        · rw [if_neg (fun h => h64 (key.1 h).2.2)]
          exact (if_neg h64).symm
    · have et : txtR s = none := by
        unfold txtR
        exact if_pos (.inr (.inr hl))
      rw [et]
      exact if_neg (fun h => hl (key.1 h).1)
  · rw [if_neg hq]
    have ht : txtR s = none := by
      unfold txtR
      rw [if_pos]
      by_cases h : s.length < 2
      · exact .inl h
      · exact .inr (.inl fun e => hq ⟨by omega, e⟩)
    rw [ht]
    cases hn : numR s with
    | some n =>
      obtain ⟨h1, h2⟩ := numR_iff.1 hn
      rw [h1]
      show (if (prV ⟨1, n, []⟩).2 = 0 ∧ (prV ⟨1, n, []⟩).1 = s then ((⟨1, n, []⟩ : Val), (0 : Int)) else (Val.zero, 5)) = (⟨1, n, []⟩, 0)
      rw [pr_num]
      exact if_pos ⟨rfl, h2⟩
    | none =>
      cases hp : parseIntB 64 s with
      | ok n =>
        show (if (prV ⟨1, n, []⟩).2 = 0 ∧ (prV ⟨1, n, []⟩).1 = s then ((⟨1, n, []⟩ : Val), (0 : Int)) else (Val.zero, 5)) = (Val.zero, 5)
        rw [pr_num]
        refine if_neg (fun h => ?_)
        rw [numR_iff.2 ⟨hp, h.2⟩] at hn
        cases hn
      | range => rfl
      | _ => rfl
end Go.WK
