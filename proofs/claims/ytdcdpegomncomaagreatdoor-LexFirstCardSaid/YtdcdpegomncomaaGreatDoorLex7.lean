/- The document's lexer: its loops as plain steps, its table of signs, what a fault is. Plain: no program in sight. -/
import Derived.Test.YtdcdpegomncomaaGreatDoorLex6
namespace Go.WK
open Go.RowKit

section ops
variable {m : Bool} {cx : Cx} {fs : Slots} {H : List Chunk} {Q : Post} {ops : Array Oper} {rest : List Oper} {g : Option (Nat × Bool)} {d : Nat} {ty : TypeId} {pos : String} {af : Array Edge}
theorem o_pickT {c x y : Operand} {v u : Value} (hy : ev fs y = some u) (hok : okS cx.n ops fs d g = true) (hc : ev fs c = some (.bool true)) (hx : ev fs x = some v) (k : TriX m cx ops ((d, v) :: fs) H rest Q) : TriX m cx ops fs H (⟨some d, .pick c x y, ty, pos, af, g⟩ :: rest) Q :=
  o_pick (t := true) (u := v) (v := u) hok hc hx hy k
theorem o_pickF {c x y : Operand} {v u : Value} (hx : ev fs x = some u) (hok : okS cx.n ops fs d g = true) (hc : ev fs c = some (.bool false)) (hy : ev fs y = some v) (k : TriX m cx ops ((d, v) :: fs) H rest Q) : TriX m cx ops fs H (⟨some d, .pick c x y, ty, pos, af, g⟩ :: rest) Q :=
  o_pick (t := false) (u := u) (v := v) hok hc hx hy k
theorem o_neqAF {x y : Operand} {t yt : TypeId} {ks : List SK} {vs : List Value} (hf : flatB cx.P t = some ks) (h1 : fitsL ks vs = true) (hs : sameL vs vs = true) (hok : okS cx.n ops fs d g = true) (hx : ev fs x = some (.agg vs.toArray)) (hy : ev fs y = some (.agg vs.toArray)) (k : TriX m cx ops ((d, .bool false) :: fs) H rest Q) :
    TriX m cx ops fs H (⟨some d, .binOp .neq t x y yt, ty, pos, af, g⟩ :: rest) Q := o_neqA hf hok hx hy h1 h1 (by rw [hs]; exact k)
theorem o_eqlAT {x y : Operand} {t yt : TypeId} {ks : List SK} {vs : List Value} (hf : flatB cx.P t = some ks) (h1 : fitsL ks vs = true) (hs : sameL vs vs = true) (hok : okS cx.n ops fs d g = true) (hx : ev fs x = some (.agg vs.toArray)) (hy : ev fs y = some (.agg vs.toArray)) (k : TriX m cx ops ((d, .bool true) :: fs) H rest Q) :
    TriX m cx ops fs H (⟨some d, .binOp .eql t x y yt, ty, pos, af, g⟩ :: rest) Q := o_eqlA hf hok hx hy h1 h1 (by rw [hs]; exact k)
end ops
/-- What a fault is: its code, its place. -/
def fc : Res → Int × Int
  | .ok _ => (0, 0)
  | .error e => e
def fcs (r : Res) : List Value := [.int .i64 (fc r).1, .int .i64 (fc r).2]
def fKs : List SK := [.int .i64, .int .i64]
theorem fcs_fits (r : Res) : fitsL fKs (fcs r) = true := by simp [fKs, fcs, fitsL, SK.fits]
theorem fcs_same (r : Res) : sameL (fcs r) (fcs r) = true := by simp [fcs, sameL, sameV]
theorem okR_bad {r : Res} (h : okR r = false) : ∃ e, r = .error e := by
  cases r with
  | ok ts => cases h
  | error e => exact ⟨e, rfl⟩
/-! ### Small letters -/
theorem low_up {c : UInt8} (h : 65 ≤ c.toNat ∧ c.toNat ≤ 90) : Value.int .u8 (IntKind.u8.wrap ((c.toNat : Int) + 32)) = byteV (low c) := by
  rw [low, if_pos h, byteV]
  congr 1
theorem low_id {c : UInt8} (h : ¬ (65 ≤ c.toNat ∧ c.toNat ≤ 90)) : low c = c := by rw [low, if_neg h]
theorem small_snoc (s : List UInt8) (i : Nat) (h : i < s.length) : small (s.take (i + 1)) = small (s.take i) ++ [low (s.getD i 0)] := by
  unfold small
  rw [List.take_succ_eq_append_getElem h, List.map_append]
  simp [List.getD, h]
theorem small_len (s : List UInt8) : (small s).length = s.length := by simp [small]
/-! ### Quoted texts -/
def txtR (s : List UInt8) : List UInt8 × Nat := match quo (s.drop 1) with
  | none => ([], 0)
  | some r => (r.1, r.2 + 1)
/-! ### Comments -/
theorem dash_no {s : List UInt8} {i : Nat} (h : ((decide (s.getD i 0 ≠ 45) || decide ((s.length : Int) ≤ (i : Int) + 1)) || decide (s.getD (i + 1) 0 ≠ 45)) = true) : ¬ (s.getD i 0 = 45 ∧ i + 1 < s.length ∧ s.getD (i + 1) 0 = 45) := fun e => by
  simp only [Bool.or_eq_true, decide_eq_true_eq] at h
  rcases h with (h | h) | h
  · exact h e.1
  · have := e.2.1; omega
  · exact h e.2.2
theorem dash_yes {s : List UInt8} {i : Nat} (h : ((decide (s.getD i 0 ≠ 45) || decide ((s.length : Int) ≤ (i : Int) + 1)) || decide (s.getD (i + 1) 0 ≠ 45)) = false) : s.getD i 0 = 45 ∧ i + 1 < s.length ∧ s.getD (i + 1) 0 = 45 := by
  simp only [Bool.or_eq_false_iff, decide_eq_false_iff_not] at h
  exact ⟨Decidable.not_not.1 h.1.1, by have := h.1.2; omega, Decidable.not_not.1 h.2⟩
theorem cmt_all (s : List UInt8) : gapM true (s.drop s.length) = gapM false (s.drop s.length) := by rw [List.drop_length]; rfl
/-! ### Signs -/
def sgs : List (List UInt8) := [[60, 62], [60, 61], [62, 61], [124, 124], [40], [41], [44], [46], [59], [61], [60], [62], [43], [45], [42], [47], [37]]
def hitB (s x : List UInt8) : Bool := decide (x.length ≤ s.length) && decide (s.take x.length = x)
theorem hit_one (s : List UInt8) (a : UInt8) (ha : a ≠ 0) : hitB s [a] = decide (s.getD 0 0 = a) := by
  cases s with
  | nil => simp [hitB, Ne.symm ha]
  | cons c l => simp [hitB]
theorem hit_two (s : List UInt8) (a b : UInt8) (ha : a ≠ 0) (hb : b ≠ 0) : hitB s [a, b] = (decide (s.getD 0 0 = a) && decide (s.getD 1 0 = b)) := by
  cases s with
  | nil => simp [hitB, Ne.symm ha]
  | cons c l =>
    cases l with
    | nil => simp [hitB, Ne.symm hb]
    | cons d l => simp [hitB, Bool.decide_and]
theorem u8_int (c : UInt8) (n : Nat) (h : n < 256) : ((c.toNat : Int) = (n : Int)) = (c = UInt8.ofNat n) := propext (by rw [byte_iff h]; omega)
def sgnF (s : List UInt8) : Nat := match sgs.find? (hitB s) with
  | some x => x.length
  | none => 0
theorem sgnF_eq (s : List UInt8) : sgnF s = sgnL s := by
  unfold sgnF sgnL sgs
  simp only [List.find?_cons, hit_one s _ (by decide : (40 : UInt8) ≠ 0), hit_one s _ (by decide : (41 : UInt8) ≠ 0), hit_one s _ (by decide : (44 : UInt8) ≠ 0), hit_one s _ (by decide : (46 : UInt8) ≠ 0), hit_one s _ (by decide : (59 : UInt8) ≠ 0), hit_one s _ (by decide : (61 : UInt8) ≠ 0), hit_one s _ (by decide : (60 : UInt8) ≠ 0), hit_one s _ (by decide : (62 : UInt8) ≠ 0), hit_one s _ (by decide : (43 : UInt8) ≠ 0), hit_one s _ (by decide : (45 : UInt8) ≠ 0), hit_one s _ (by decide : (42 : UInt8) ≠ 0), hit_one s _ (by decide : (47 : UInt8) ≠ 0), hit_one s _ (by decide : (37 : UInt8) ≠ 0),
    hit_two s _ _ (by decide : (60 : UInt8) ≠ 0) (by decide : (62 : UInt8) ≠ 0), hit_two s _ _ (by decide : (60 : UInt8) ≠ 0) (by decide : (61 : UInt8) ≠ 0), hit_two s _ _ (by decide : (62 : UInt8) ≠ 0) (by decide : (61 : UInt8) ≠ 0), hit_two s _ _ (by decide : (124 : UInt8) ≠ 0) (by decide : (124 : UInt8) ≠ 0), List.find?_nil]
  generalize s.getD 0 0 = c
  generalize s.getD 1 0 = d
  have e : ∀ (x : UInt8) (n : Nat), n < 256 → (x = UInt8.ofNat n ↔ x.toNat = n) := fun x n h => byte_iff h
  have c60 : c = 60 ↔ c.toNat = 60 := e c 60 (by decide)
  have c62 : c = 62 ↔ c.toNat = 62 := e c 62 (by decide)
  have c61 : c = 61 ↔ c.toNat = 61 := e c 61 (by decide)
  have c124 : c = 124 ↔ c.toNat = 124 := e c 124 (by decide)
  have c40 : c = 40 ↔ c.toNat = 40 := e c 40 (by decide)
  have c41 : c = 41 ↔ c.toNat = 41 := e c 41 (by decide)
  have c44 : c = 44 ↔ c.toNat = 44 := e c 44 (by decide)
  have c46 : c = 46 ↔ c.toNat = 46 := e c 46 (by decide)
  have c59 : c = 59 ↔ c.toNat = 59 := e c 59 (by decide)
  have c43 : c = 43 ↔ c.toNat = 43 := e c 43 (by decide)
  have c45 : c = 45 ↔ c.toNat = 45 := e c 45 (by decide)
  have c42 : c = 42 ↔ c.toNat = 42 := e c 42 (by decide)
  have c47 : c = 47 ↔ c.toNat = 47 := e c 47 (by decide)
  have c37 : c = 37 ↔ c.toNat = 37 := e c 37 (by decide)
  have d62 : d = 62 ↔ d.toNat = 62 := e d 62 (by decide)
  have d61 : d = 61 ↔ d.toNat = 61 := e d 61 (by decide)
  have d124 : d = 124 ↔ d.toNat = 124 := e d 124 (by decide)
  simp only [c60, c61, c62, c124, c40, c41, c44, c46, c59, c43, c45, c42, c47, c37, d61, d62, d124, ← Bool.decide_and]
  generalize c.toNat = x
  generalize d.toNat = y
  unfold sgn
  by_cases h60 : x = 60
  · subst h60
    by_cases h1 : y = 62
    · subst h1; rfl
    · by_cases h2 : y = 61
      · subst h2; rfl
      · have : ¬ ((y : Int) = 62 ∨ (y : Int) = 61) := by omega
        simp [h1, h2, this]
  · by_cases h62 : x = 62
    · subst h62
      by_cases h2 : y = 61
      · subst h2; rfl
      · have : ¬ ((y : Int) = 61) := by omega
        simp [h2, this]
    · by_cases h124 : x = 124
      · subst h124
        by_cases h3 : y = 124
        · subst h3; rfl
        · have : ¬ ((y : Int) = 124) := by omega
          simp [h3, this]
      · rw [if_neg (by omega), if_neg (by omega)]
        by_cases hx : x = 40 ∨ x = 41 ∨ x = 44 ∨ x = 46 ∨ x = 59 ∨ x = 61 ∨ x = 43 ∨ x = 45 ∨ x = 42 ∨ x = 47 ∨ x = 37
        · rw [if_pos (by omega)]
          rcases hx with rfl | rfl | rfl | rfl | rfl | rfl | rfl | rfl | rfl | rfl | rfl <;> rfl
        · rw [if_neg (by omega), if_neg (by omega)]
          have : x ≠ 40 ∧ x ≠ 41 ∧ x ≠ 44 ∧ x ≠ 46 ∧ x ≠ 59 ∧ x ≠ 61 ∧ x ≠ 43 ∧ x ≠ 45 ∧ x ≠ 42 ∧ x ≠ 47 ∧ x ≠ 37 := by omega
          simp [h60, h62, h124, this]
theorem sgs_len : sgs.length = 17 := rfl
theorem sgs_step {s : List UInt8} {i : Nat} (hi : i < sgs.length) (h : sgs.find? (hitB s) = (sgs.drop i).find? (hitB s)) (hm : hitB s (sgs.getD i []) = false) : sgs.find? (hitB s) = (sgs.drop (i + 1)).find? (hitB s) := by
  rw [h, show sgs.drop i = sgs.getD i [] :: sgs.drop (i + 1) by rw [List.drop_eq_getElem_cons hi]; simp [List.getD, hi], List.find?_cons, hm]
theorem sgs_hit {s : List UInt8} {i : Nat} (hi : i < sgs.length) (h : sgs.find? (hitB s) = (sgs.drop i).find? (hitB s)) (hm : hitB s (sgs.getD i []) = true) : sgnL s = (sgs.getD i []).length ∧ s.take (sgnL s) = sgs.getD i [] ∧ sgnL s ≠ 0 := by
  have h2 : sgs.find? (hitB s) = some (sgs.getD i []) := by
    rw [h, show sgs.drop i = sgs.getD i [] :: sgs.drop (i + 1) by rw [List.drop_eq_getElem_cons hi]; simp [List.getD, hi], List.find?_cons, hm]
  have h3 : sgnL s = (sgs.getD i []).length := by rw [← sgnF_eq, sgnF, h2]
  have h4 : 0 < (sgs.getD i []).length := by
    have : ∀ x ∈ sgs, 0 < x.length := by decide
    exact this _ (getD_memS sgs i hi)
  simp only [hitB, Bool.and_eq_true, decide_eq_true_eq] at hm
  exact ⟨h3, by rw [h3]; exact hm.2, by omega⟩
theorem sgs_none {s : List UInt8} {i : Nat} (hi : i = sgs.length) (h : sgs.find? (hitB s) = (sgs.drop i).find? (hitB s)) : sgnL s = 0 := by
  rw [← sgnF_eq, sgnF, h, hi, List.drop_length]; rfl
theorem sgs_short (i : Nat) (hi : i < sgs.length) : (sgs.getD i []).length ≤ 2 := by
  have : ∀ x ∈ sgs, x.length ≤ 2 := by decide
  exact this _ (getD_memS sgs i hi)
theorem hit_int (s x : List UInt8) : (decide ((x.length : Int) ≤ (s.length : Int)) && decide (s.take x.length = x)) = hitB s x := by
  unfold hitB
  congr 1
  exact decide_eq_decide.2 (by omega)
theorem txt_one {s : List UInt8} (h : s.getD 0 0 = 39) : one s = if (txtR s).2 = 0 then ⟨0, [], 0, 180⟩ else if 64 < (txtR s).1.length then ⟨0, [], 0, 3⟩ else ⟨3, (txtR s).1, (txtR s).2, 0⟩ := by
  rw [one_text h]
  unfold txtR
  cases quo (s.drop 1) with
  | none => rfl
  | some r => simp
theorem numBad_yes {s : List UInt8} {n : Nat} (h : (((decide ((1 : Int) < (n : Int)) && decide (s.getD 0 0 = 48)) || !most (s.take n)) || (decide ((n : Int) < (s.length : Int)) && isLet (s.getD n 0))) = true) : numBad s n := by
  simp only [Bool.or_eq_true, Bool.and_eq_true, decide_eq_true_eq, Bool.not_eq_true'] at h
  rcases h with (h | h) | h
  · exact .inl ⟨by have := h.1; omega, h.2⟩
  · exact .inr (.inl h)
  · exact .inr (.inr ⟨by have := h.1; omega, h.2⟩)
theorem numBad_not {s : List UInt8} {n : Nat} (h : (((decide ((1 : Int) < (n : Int)) && decide (s.getD 0 0 = 48)) || !most (s.take n)) || (decide ((n : Int) < (s.length : Int)) && isLet (s.getD n 0))) = false) : ¬ numBad s n := fun e => by
  rw [Bool.eq_false_iff] at h
  apply h
  simp only [Bool.or_eq_true, Bool.and_eq_true, decide_eq_true_eq, Bool.not_eq_true']
  rcases e with e | e | e
  · exact .inl (.inl ⟨by have := e.1; omega, e.2⟩)
  · exact .inl (.inr e)
  · exact .inr ⟨by have := e.1; omega, e.2⟩
/-! ### Rounds of the document's lexer -/
def lexInvG (s : List UInt8) (acc : List Tok) (p : Nat) : Prop := ∃ a, lexInv s acc a ∧ a + gap (s.drop a) = p
theorem lexInvG_le {s : List UInt8} {acc : List Tok} {p : Nat} (h : lexInvG s acc p) : p ≤ s.length ∧ acc.length ≤ p := by
  obtain ⟨a, h1, h2⟩ := h
  have := gap_in h1.1
  have := h1.2.1
  omega
theorem take_eq_snoc {ts us : List Tok} {i : Nat} (hi : i < ts.length) (hj : i < us.length) (h : ts.take i = us.take i) (he : ts.getD i Tok.zero = us.getD i Tok.zero) : ts.take (i + 1) = us.take (i + 1) := by
  rw [take_snocT ts i hi, take_snocT us i hj, h, he]
/-! ### The first fault -/
theorem one_e (s : List UInt8) : 0 ≤ (one s).e := by
  have h0 : (0 : Int) ≤ 0 := Int.le_refl _
  have h1 : (0 : Int) ≤ 180 := by decide
  have h3 : (0 : Int) ≤ 3 := by decide
  unfold one
  split
  · exact h0
  · split
    · split
      · exact h1
      · exact h0
    · split
      · split
        · exact h1
        · split
          · exact h3
          · exact h0
      · split
        · exact h1
        · exact h0
theorem lexR_code (f : Nat) : ∀ (a : Nat) (r : List UInt8), 0 ≤ (fc (lexR f a r)).1 := by
  induction f with
  | zero => intro a r; exact Int.le_refl _
  | succ f ih =>
    intro a r
    cases r with
    | nil => exact Int.le_refl _
    | cons c l =>
      unfold lexR
      split
      · exact one_e _
      · have := ih (a + (one (c :: l)).n + gap ((c :: l).drop (one (c :: l)).n)) (((c :: l).drop (one (c :: l)).n).drop (gap ((c :: l).drop (one (c :: l)).n)))
        revert this
        cases lexR f (a + (one (c :: l)).n + gap ((c :: l).drop (one (c :: l)).n)) (((c :: l).drop (one (c :: l)).n).drop (gap ((c :: l).drop (one (c :: l)).n))) with
        | ok ts => intro _; exact Int.le_refl _
        | error e => exact id
theorem lex_code (s : List UInt8) : 0 ≤ (fc (lexL s)).1 := by
  unfold lexL
  split
  · decide
  · exact lexR_code _ _ _
theorem fc_bad {r : Res} (h : (fc r).1 = 180) : r = .error (180, (fc r).2) := by
  cases r with
  | ok ts => have h : (0 : Int) = 180 := h; omega
  | error e => obtain ⟨a, b⟩ := e; have h : a = 180 := h; subst h; rfl
theorem first_idx {s : List UInt8} (hs : s.length ≤ 2000) (h : (fc (lexL (s ++ [10]))).1 = 180) : 0 ≤ (fc (lexL (s ++ [10]))).2 ∧ (fc (lexL (s ++ [10]))).2 < s.length := by
  obtain ⟨j, h1, h2, _⟩ := lex_first (t := []) hs (by simp) (fc_bad h)
  omega
theorem first_same {s t : List UInt8} (hs : s.length ≤ 2000) (ht : t.length ≤ 2000) (h : (fc (lexL (s ++ [10]))).1 = 180) (h2 : s.getD (fc (lexL (s ++ [10]))).2.toNat 0 ≠ 39) : lexL (s ++ [10] ++ t) = lexL (s ++ [10]) := by
  have e := fc_bad h
  obtain ⟨j, h3, h4, h5⟩ := lex_first (t := t) hs ht e
  rcases h5 with h5 | h5
  · exact absurd (by rw [h3]; exact h5) h2
  · rw [h5, ← e]
end Go.WK
