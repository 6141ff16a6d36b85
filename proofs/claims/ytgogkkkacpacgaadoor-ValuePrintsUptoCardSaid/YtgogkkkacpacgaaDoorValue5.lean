/- Numerals and quoted texts as the document's loops make and read them; a held error held against nil. Plain lemmas over any program. -/
import Derived.Test.YtgogkkkacpacgaaDoorValue4
import Derived.Laws.Entries
import Derived.WideLaws
namespace Go.WK
open Go.RowKit Go.Lib

section ops
variable {m : Bool} {cx : Cx} {fs : Slots} {H : List Chunk} {Q : Post} {ops : Array Oper} {rest : List Oper} {g : Option (Nat × Bool)} {d : Nat} {ty : TypeId} {pos : String} {af : Array Edge}
theorem o_neqHeld {x : Operand} {t yt u : TypeId} {v : Value} (ht : cx.P.underlying t = some (.interface (cx.P.methodsAt t))) (hok : okS cx.n ops fs d g = true) (hx : ev fs x = some (.iface u v)) (k : TriX m cx ops ((d, .bool true) :: fs) H rest Q) :
    TriX m cx ops fs H (⟨some d, .binOp .neq t x (.const .nilIface) yt, ty, pos, af, g⟩ :: rest) Q :=
  triL_val _ hok (fun a w ha _ => run_bin (ha.eval hx) rfl rfl (run_neq_held_nil w t u v ht)) k
theorem o_neqNilI {x : Operand} {t yt : TypeId} (ht : cx.P.underlying t = some (.interface (cx.P.methodsAt t))) (hok : okS cx.n ops fs d g = true) (hx : ev fs x = some .nilIface) (k : TriX m cx ops ((d, .bool false) :: fs) H rest Q) :
    TriX m cx ops fs H (⟨some d, .binOp .neq t x (.const .nilIface) yt, ty, pos, af, g⟩ :: rest) Q :=
  triL_val _ hok (fun a w ha _ => run_bin (ha.eval hx) rfl (eqGuard_nil_constR _ _ _ _) (run_neq_nil_nil w t ht)) k
end ops

/-! ### Digits, the last ahead -/
def dd (k : Nat) : List UInt8 := if k = 0 then [] else decDigits k
theorem dd_step (k : Nat) : decDigits k = dd (k / 10) ++ [UInt8.ofNat (48 + k % 10)] := by
  unfold dd
  by_cases h : k < 10
  · rw [if_pos (by omega), dec_small h, Nat.mod_eq_of_lt h]; rfl
  · rw [if_neg (by omega), dec_big h]
/-- What the digits so far are: of the number u, k is left. -/
def digInv (u k : Nat) (l : List UInt8) : Prop := k ≤ u ∧ ((l = [] ∧ k = u) ∨ (l ≠ [] ∧ decDigits u = dd k ++ l.reverse))
theorem digInv_step {u k : Nat} {l : List UInt8} (h : digInv u k l) (hc : 0 < k ∨ l.length = 0) : digInv u (k / 10) (l ++ [UInt8.ofNat (48 + k % 10)]) := by
  obtain ⟨h0, h⟩ := h
  refine ⟨by omega, .inr ⟨by simp, ?_⟩⟩
  rcases h with ⟨rfl, rfl⟩ | ⟨hne, h⟩
  · rw [dd_step k]; simp
  · have hk : 0 < k := by
      rcases hc with hc | hc
      · exact hc
      · exact absurd (List.length_eq_zero_iff.1 hc) hne
    rw [h, dd, if_neg (by omega), dd_step k]
    simp
theorem digInv_len {u k : Nat} {l : List UInt8} (h : digInv u k l) (hu : u ≤ 9223372036854775808) : l.length ≤ 19 := by
  obtain ⟨_, ⟨rfl, _⟩ | ⟨_, h⟩⟩ := h
  · simp
  · have h1 := dec_len hu
    rw [h] at h1
    simp at h1
    omega
theorem digInv_end {u k : Nat} {l : List UInt8} (h : digInv u k l) (hk : ¬ 0 < k) (hl : ¬ l.length = 0) : decDigits u = l.reverse := by
  obtain ⟨_, ⟨rfl, _⟩ | ⟨_, h⟩⟩ := h
  · exact absurd rfl hl
  · rw [h, dd, if_pos (by omega)]; rfl
theorem rev_snoc (l : List UInt8) (i : Nat) (h : i < l.length) : l.reverse.take (i + 1) = l.reverse.take i ++ [l.getD (l.length - 1 - i) 0] := by
  rw [take_snocB l.reverse i (by simpa using h)]
  congr 2
  simp only [List.getD_eq_getElem?_getD, List.getElem?_reverse h]

/-! ### Numerals read -/
def magF (d : List UInt8) (below : Bool) : Int × Bool := if d = [] ∨ 19 < d.length ∨ (d.getD 0 0 = 48 ∧ (1 < d.length ∨ below = true)) then (0, false) else match decFrom 0 d with
  | some u => sgF u below
  | none => (0, false)
def numF : List UInt8 → Int × Bool
  | [] => magF [] false
  | c :: r => if c = 45 then magF r true else magF (c :: r) false
theorem sgF_d (u : Nat) (b : Bool) : (sgF u b).2 = (sgnd u b).isSome ∧ ∀ n, sgnd u b = some n → (sgF u b).1 = n := by
  unfold sgF sgnd
  cases b
  · rw [if_neg (by decide), if_neg (by decide)]
    by_cases h : u < 9223372036854775808
    · rw [if_pos h]
      refine ⟨by simp [h], fun n e => ?_⟩
      simp only [Option.some.injEq] at e
      rw [← e]
      exact wrap_of (inR_iff.2 (by omega))
    · rw [if_neg h]
      exact ⟨by simp [h], fun n e => by cases e⟩
  · rw [if_pos rfl, if_pos rfl]
    by_cases h : u ≤ 9223372036854775808
    · rw [if_pos h]
      refine ⟨by simp [h], fun n e => ?_⟩
      simp only [Option.some.injEq] at e
      rw [← e]
      exact wrap_of (inR_iff.2 (by omega))
    · rw [if_neg h]
      exact ⟨by simp [h], fun n e => by cases e⟩
theorem magF_d (d : List UInt8) (b : Bool) : (magF d b).2 = (magR d b).isSome ∧ ∀ n, magR d b = some n → (magF d b).1 = n := by
  have hh : d.getD 0 0 = 48 ↔ d.head? = some 48 := by
    cases d with
    | nil => simp
    | cons c r => simp
  have hc : (d = [] ∨ 19 < d.length ∨ (d.getD 0 0 = 48 ∧ (1 < d.length ∨ b = true))) ↔ (d = [] ∨ 19 < d.length ∨ (d.head? = some 48 ∧ (1 < d.length ∨ b = true))) := by rw [hh]
  unfold magF magR
  by_cases h : d = [] ∨ 19 < d.length ∨ (d.head? = some 48 ∧ (1 < d.length ∨ b = true))
  · rw [if_pos h, if_pos (hc.2 h)]
    exact ⟨rfl, fun n e => by cases e⟩
  · rw [if_neg h, if_neg (fun e => h (hc.1 e))]
    cases hd : decFrom 0 d with
    | none => exact ⟨rfl, fun n e => by cases e⟩
    | some u => exact sgF_d u b
theorem numF_d (s : List UInt8) : (numF s).2 = (numR s).isSome ∧ ∀ n, numR s = some n → (numF s).1 = n := by
  cases s with
  | nil =>
    have e : magF [] false = (0, false) := by simp [magF]
    exact ⟨by show (magF [] false).2 = _; rw [e]; rfl, fun n e => by cases e⟩
  | cons c r =>
    simp only [numF, numR]
    split
    · exact magF_d _ _
    · exact magF_d _ _
theorem numF_ok {s : List UInt8} (h : (numF s).2 = true) : numR s = some (numF s).1 := by
  obtain ⟨h1, h2⟩ := numF_d s
  rw [h] at h1
  cases hn : numR s with
  | none => rw [hn] at h1; cases h1
  | some n => rw [h2 n hn]
theorem numF_no {s : List UInt8} (h : ¬ (numF s).2 = true) : numR s = none := by
  obtain ⟨h1, _⟩ := numF_d s
  cases hn : numR s with
  | none => rfl
  | some n => rw [hn] at h1; exact absurd h1 h
theorem decFrom_bad {l : List UInt8} {i : Nat} (hi : i < l.length) (h : digitVal (l.getD i 0) = none) : decFrom 0 l = none := by
  cases hd : decFrom 0 l with
  | none => rfl
  | some n =>
    obtain ⟨d, e⟩ := digit_of_decFrom l 0 n hd i (l.getD i 0) (by simp [List.getD, hi])
    rw [h] at e
    cases e
theorem notDigit {c : UInt8} (h : (c.toNat : Int) < 48 ∨ 57 < (c.toNat : Int)) : digitVal c = none := by
  unfold digitVal
  rw [if_neg (by omega)]
theorem aDigit {c : UInt8} (h : ¬ (c.toNat : Int) < 48 ∧ ¬ 57 < (c.toNat : Int)) : digitVal c = some (c.toNat - 48) := by
  unfold digitVal
  rw [if_pos (by omega)]
theorem dec_next {l : List UInt8} {i u : Nat} (hi : i < l.length) (hu : decFrom 0 (l.take i) = some u) (h : ¬ ((l.getD i 0).toNat : Int) < 48 ∧ ¬ 57 < ((l.getD i 0).toNat : Int)) : decFrom 0 (l.take (i + 1)) = some (u * 10 + ((l.getD i 0).toNat - 48)) :=
  decFrom_take l i 0 u (l.getD i 0) _ hu (by simp [List.getD, hi]) (aDigit h)
theorem dec_lt19 {l : List UInt8} {i u : Nat} (hi : i ≤ 19) (hu : decFrom 0 (l.take i) = some u) : u < 10000000000000000000 := by
  have h := decFrom_lt _ _ _ hu
  have h1 : (l.take i).length ≤ 19 := by simp; omega
  have h2 : (10 : Nat) ^ (l.take i).length ≤ 10 ^ 19 := Nat.pow_le_pow_right (by omega) h1
  have h3 : (10 : Nat) ^ 19 = 10000000000000000000 := by decide
  omega

theorem dec_lt18 {l : List UInt8} {i u : Nat} (hi : i ≤ 18) (hu : decFrom 0 (l.take i) = some u) : u < 1000000000000000000 := by
  have h := decFrom_lt _ _ _ hu
  have h1 : (l.take i).length ≤ 18 := by simp; omega
  have h2 : (10 : Nat) ^ (l.take i).length ≤ 10 ^ 18 := Nat.pow_le_pow_right (by omega) h1
  have h3 : (10 : Nat) ^ 18 = 1000000000000000000 := by decide
  omega

/-! ### Quotes undone -/
theorem undO_drop {m : List UInt8} {j : Nat} (hj : j < m.length) (hc : m.getD j 0 ≠ 39) : undO (m.drop j) = (undO (m.drop (j + 1))).map (m.getD j 0 :: ·) := by
  rw [List.drop_eq_getElem_cons hj]
  have e : m.getD j 0 = m[j] := by simp [List.getD, hj]
  rw [e] at hc ⊢
  exact undO_plain hc _
theorem undO_last {m : List UInt8} {j : Nat} (hj : j < m.length) (hc : m.getD j 0 = 39) (hl : m.length ≤ j + 1) : undO (m.drop j) = none := by
  rw [List.drop_eq_getElem_cons hj, List.drop_eq_nil_of_le hl]
  have e : m.getD j 0 = m[j] := by simp [List.getD, hj]
  rw [← e, hc]
  rfl
theorem undO_alone {m : List UInt8} {j : Nat} (hj : j + 1 < m.length) (hc : m.getD j 0 = 39) (hd : m.getD (j + 1) 0 ≠ 39) : undO (m.drop j) = none := by
  have h1 : j < m.length := by omega
  rw [List.drop_eq_getElem_cons h1, List.drop_eq_getElem_cons hj]
  have e : m.getD j 0 = m[j] := by simp [List.getD, h1]
  have e2 : m.getD (j + 1) 0 = m[j + 1] := by simp [List.getD, hj]
  rw [← e, ← e2, hc]
  unfold undO
  rw [if_pos rfl, if_neg hd]
theorem undO_twice {m : List UInt8} {j : Nat} (hj : j + 1 < m.length) (hc : m.getD j 0 = 39) (hd : m.getD (j + 1) 0 = 39) : undO (m.drop j) = (undO (m.drop (j + 2))).map (39 :: ·) := by
  have h1 : j < m.length := by omega
  rw [List.drop_eq_getElem_cons h1, List.drop_eq_getElem_cons hj]
  have e : m.getD j 0 = m[j] := by simp [List.getD, h1]
  have e2 : m.getD (j + 1) 0 = m[j + 1] := by simp [List.getD, hj]
  rw [← e, ← e2, hc, hd]
  conv => lhs; unfold undO
  rw [if_pos rfl, if_pos rfl]
theorem mid_get (s : List UInt8) (j : Nat) (h : j < s.length - 2) : ((s.drop 1).take (s.length - 2)).getD j 0 = s.getD (j + 1) 0 := by
  simp only [List.getD_eq_getElem?_getD, List.getElem?_take_of_lt h, List.getElem?_drop, Nat.add_comm]
theorem mid_len (s : List UInt8) : ((s.drop 1).take (s.length - 2)).length = s.length - 2 := by simp; omega
theorem und_len : ∀ m : List UInt8, (und m).length ≤ m.length
  | [] => by simp [und]
  | [c] => by simp [und]
  | c :: d :: r => by
    have h1 := und_len r
    have h2 := und_len (d :: r)
    unfold und
    split
    · simp; omega
    · simp at h2 ⊢; omega
theorem parse_cases (s : List UInt8) : (∃ n, parseIntB 64 s = .ok n) ∨ (∀ n, parseIntB 64 s ≠ .ok n) := by
  cases h : parseIntB 64 s with
  | ok n => exact .inl ⟨n, rfl⟩
  | range => exact .inr (fun n e => by cases e)
  | _ => exact .inr (fun n e => by cases e)
theorem parse_in {s : List UInt8} {n : Int} (h : parseIntB 64 s = .ok n) : inR n = true := by
  have hb := parseIntB_bounds h
  have : (2 : Nat) ^ (64 - 1) = 9223372036854775808 := by decide
  rw [this] at hb
  exact inR_iff.2 (by omega)
theorem dbl_append (a b : List UInt8) : dbl (a ++ b) = dbl a ++ dbl b := by
  induction a with
  | nil => rfl
  | cons c a ih => simp only [List.cons_append, dbl, ih]; split <;> rfl
theorem dbl_snoc (s : List UInt8) (j : Nat) (h : j < s.length) : dbl (s.take (j + 1)) = dbl (s.take j) ++ (if s.getD j 0 = 39 then [39, 39] else [s.getD j 0]) := by
  rw [take_snocB s j h, dbl_append]
  simp only [dbl]
end Go.WK
