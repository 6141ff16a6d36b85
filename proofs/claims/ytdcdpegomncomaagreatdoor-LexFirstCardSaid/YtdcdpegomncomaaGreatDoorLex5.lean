/- The lexer's rounds: what has been read of a text, and what its next token is. Plain: no program in sight. -/
import Derived.Test.YtdcdpegomncomaaGreatDoorLex4
namespace Go.WK
open Go.RowKit

/-- So far these tokens, up to that byte. -/
def lexInv (s : List UInt8) (acc : List Tok) (a : Nat) : Prop := a ≤ s.length ∧ acc.length ≤ a ∧ lexL s = (lexP (s.length + 1 - a) a (s.drop a)).map (acc ++ ·)
theorem map_nil (r : Res) : r.map (([] : List Tok) ++ ·) = r := by cases r <;> simp [Except.map]
theorem lexInv_zero {s : List UInt8} (h : s.length ≤ 4096) : lexInv s [] 0 := by
  refine ⟨Nat.zero_le _, Nat.le_refl _, ?_⟩
  rw [map_nil, lexL, if_neg (by omega), Nat.sub_zero, List.drop_zero]
theorem lex_long {s : List UInt8} (h : 4096 < s.length) : lexL s = .error (3, 0) := by rw [lexL, if_pos h]
theorem gap_in {s : List UInt8} {a : Nat} (h : a ≤ s.length) : a + gap (s.drop a) ≤ s.length := by
  have := gapM_le false (s.drop a)
  rw [List.length_drop] at this
  show a + gapM false (s.drop a) ≤ _
  omega
theorem lexInv_end {s : List UInt8} {acc : List Tok} {a : Nat} (h : lexInv s acc a) (he : a + gap (s.drop a) = s.length) : lexL s = .ok (acc ++ [⟨5, [], (s.length : Int)⟩]) := by
  obtain ⟨h1, _, h3⟩ := h
  rw [h3, show s.length + 1 - a = (s.length - a) + 1 by omega, lexP_nil (by rw [List.drop_drop, he, List.drop_length]), he]
  rfl
theorem lexInv_bad {s : List UInt8} {acc : List Tok} {a p : Nat} (h : lexInv s acc a) (hp : a + gap (s.drop a) = p) (hl : p < s.length) (he : (one (s.drop p)).e ≠ 0) : lexL s = .error ((one (s.drop p)).e, (p : Int)) := by
  obtain ⟨h1, _, h3⟩ := h
  have hd : (s.drop a).drop (gap (s.drop a)) = s.getD p 0 :: s.drop (p + 1) := by rw [List.drop_drop, hp, drop_cons hl]
  rw [h3, show s.length + 1 - a = (s.length - a) + 1 by omega, lexP_cons hd, ← drop_cons hl, if_pos he, hp]
  rfl
theorem lexInv_step {s : List UInt8} {acc : List Tok} {a p : Nat} (h : lexInv s acc a) (hp : a + gap (s.drop a) = p) (hl : p < s.length) (he : (one (s.drop p)).e = 0) :
    1 ≤ (one (s.drop p)).n ∧ p + (one (s.drop p)).n ≤ s.length ∧ lexInv s (acc ++ [⟨(one (s.drop p)).k, (one (s.drop p)).t, (p : Int)⟩]) (p + (one (s.drop p)).n) := by
  obtain ⟨h1, h2, h3⟩ := h
  have hd : (s.drop a).drop (gap (s.drop a)) = s.getD p 0 :: s.drop (p + 1) := by rw [List.drop_drop, hp, drop_cons hl]
  have hn := one_len (c := s.getD p 0) (l := s.drop (p + 1)) (by rw [← drop_cons hl]; exact he)
  rw [← drop_cons hl, List.length_drop] at hn
  refine ⟨hn.1, by omega, by omega, by simp; omega, ?_⟩
  rw [h3, show s.length + 1 - a = (s.length - a) + 1 by omega, lexP_cons hd, ← drop_cons hl, if_neg (by rw [he]; simp), hp, List.drop_drop,
    lexP_fuel (f := s.length - a) (f' := s.length + 1 - (p + (one (s.drop p)).n)) (by rw [List.length_drop]; omega) (by rw [List.length_drop]; omega)]
  cases lexP (s.length + 1 - (p + (one (s.drop p)).n)) (p + (one (s.drop p)).n) (s.drop (p + (one (s.drop p)).n)) <;> simp [Except.map]
/-- A token that is as it should be, where it has no fault. -/
def OneIs (r : List UInt8) (j : One) : Prop := j.e = (one r).e ∧ (j.e = 0 → j = one r) ∧ j.n ≤ r.length
theorem oneIs_word {r : List UInt8} (h : isLet (r.getD 0 0) = true) : OneIs r ⟨1, small (r.take (runL isWd r)), runL isWd r, 0⟩ := by
  rw [OneIs, one_word h]
  exact ⟨rfl, fun _ => rfl, run_le _ _⟩
theorem oneIs_num {r : List UInt8} (h1 : isLet (r.getD 0 0) = false) (h2 : isDig (r.getD 0 0) = true) : OneIs r ⟨2, r.take (runL isDig r), runL isDig r, if numBad r (runL isDig r) then 180 else 0⟩ := by
  rw [OneIs, one_num h1 h2]
  by_cases hb : numBad r (runL isDig r)
  · rw [if_pos hb, if_pos hb]
    exact ⟨rfl, (fun e => by cases e), run_le _ _⟩
  · rw [if_neg hb, if_neg hb]
    exact ⟨rfl, fun _ => rfl, run_le _ _⟩
theorem quoR_n {r : List UInt8} (h : r ≠ []) : (quoR r).2.1 ≤ r.length := by
  unfold quoR
  cases hq : quo (r.drop 1) with
  | none => simp
  | some y =>
    obtain ⟨h1, h2, _⟩ := quo_n (t := y.1) (n := y.2) hq
    rw [List.length_drop] at h2
    simp only
    split <;> simp <;> omega
theorem oneIs_text {r : List UInt8} (h : r.getD 0 0 = 39) : OneIs r ⟨3, (quoR r).1, (quoR r).2.1, (quoR r).2.2⟩ := by
  have hne : r ≠ [] := fun e => by rw [e] at h; exact absurd h (by decide)
  have hl := quoR_n hne
  rw [OneIs, one_text h]
  refine ⟨?_, ?_, hl⟩
  · unfold quoR
    cases quo (r.drop 1) with
    | none => rfl
    | some y => simp only; split <;> rfl
  · unfold quoR
    cases quo (r.drop 1) with
    | none => intro e; cases e
    | some y =>
      simp only
      split
      · intro e; cases e
      · intro _; rfl
theorem sgnL_le {r : List UInt8} (h : r ≠ []) : sgnL r ≤ r.length := by
  have h2 : sgnL r ≤ 2 := sgn_two _ _
  rcases (by omega : sgnL r ≤ 1 ∨ sgnL r = 2) with e | e
  · cases r with
    | nil => exact absurd rfl h
    | cons => simp; omega
  · have h5 := sgn_second (c := (r.getD 0 0).toNat) (d := (r.getD 1 0).toNat) e
    rcases Nat.lt_or_ge 1 r.length with h6 | h6
    · omega
    · rw [show r.getD 1 0 = 0 by rw [List.getD_eq_getElem?_getD, List.getElem?_eq_none h6]; rfl] at h5
      simp at h5
theorem oneIs_sign {r : List UInt8} (h0 : r ≠ []) (h1 : isLet (r.getD 0 0) = false) (h2 : isDig (r.getD 0 0) = false) (h3 : r.getD 0 0 ≠ 39) (e : Int) (he : e = if sgnL r = 0 then 180 else 0) : OneIs r ⟨4, r.take (sgnL r), sgnL r, e⟩ := by
  rw [OneIs, one_sign h1 h2 h3]
  subst he
  by_cases hb : sgnL r = 0
  · rw [if_pos hb, if_pos hb]
    exact ⟨rfl, (fun e => by cases e), sgnL_le h0⟩
  · rw [if_neg hb, if_neg hb]
    exact ⟨rfl, fun _ => rfl, sgnL_le h0⟩
theorem run_ascii (l : List UInt8) : ∀ c ∈ l.take (runL isWd l), c.toNat < 128 := by
  intro c hc
  obtain ⟨i, hi, e⟩ := List.mem_iff_getElem.1 hc
  rw [List.getElem_take] at e
  have hi : i < runL isWd l := by rw [List.length_take] at hi; omega
  have h := run_at isWd l i hi
  have hl := run_le isWd l
  have e2 : l.getD i 0 = c := by rw [← e]; simp [List.getD, show i < l.length by omega]
  rw [e2, wd_iff] at h
  rcases h with h | h
  · have := let_iff.1 h; omega
  · have := dig_iff.1 h; omega
theorem new_none {P : Program} {n0 : Nat} {w : World} {H : List Chunk} {e size : Nat} (f : Value → Value) : ∀ w', Sat ⟨P, n0, [], w, []⟩ H w' → NewRowF f w e size 0 [] (.returned (f (.slice none 0 0))) w' := fun w' h => fin_row f Nth.z w' (h.nilRow _ _)
end Go.WK
