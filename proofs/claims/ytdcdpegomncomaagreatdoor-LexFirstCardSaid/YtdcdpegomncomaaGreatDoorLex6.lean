/- The laws of tokens, as the statements say them. Plain: no program in sight. -/
import Derived.Test.YtdcdpegomncomaaGreatDoorLex5
namespace Go.WK
open Go.RowKit

theorem lexP_shift {f o d : Nat} {q : List UInt8} (h : q.length < f) : lexP f (o + d) q = shR d (lexP f o q) := by
  unfold lexP
  rw [show o + d + gap q = o + gap q + d by omega]
  exact lexR_shift f _ _ _ (by omega) (by rw [List.length_drop]; omega)
theorem lexL_ok {s : List UInt8} {ts : List Tok} (h : lexL s = .ok ts) : s.length ≤ 4096 ∧ lexP (s.length + 1) 0 s = .ok ts := by
  unfold lexL at h
  split at h
  · cases h
  · exact ⟨by omega, h⟩
theorem lexL_is {s : List UInt8} (h : s.length ≤ 4096) : lexL s = lexP (s.length + 1) 0 s := by rw [lexL, if_neg (by omega)]
theorem lex_some {s : List UInt8} {ts : List Tok} (h : lexL s = .ok ts) : 0 < ts.length := by
  have := lexP_some (lexL_ok h).2
  cases ts with
  | nil => exact absurd rfl this
  | cons => simp
theorem lex_parts {s t : List UInt8} {ts us : List Tok} (hs : s.length ≤ 2000) (ht : t.length ≤ 2000) (e1 : lexL s = .ok ts) (e2 : lexL t = .ok us) : lexL (s ++ [10] ++ t) = .ok (ts.dropLast ++ us.map (shT ((s.length : Int) + 1))) := by
  obtain ⟨_, e1⟩ := lexL_ok e1
  obtain ⟨_, e2⟩ := lexL_ok e2
  rw [List.append_assoc, List.singleton_append, lexL_is (by simp; omega)]
  have h := lexP_parts _ ((s ++ 10 :: t).length + 1) 0 s t ts e1 (by omega)
  rw [h, show 0 + s.length + 1 = 0 + (s.length + 1) by omega, lexP_shift (by simp; omega), lexP_fuel (f' := t.length + 1) (by simp; omega) (by omega), e2]
  rfl
theorem lex_blank {s : List UInt8} {ts : List Tok} {k : Nat} (hs : s.length ≤ 2000) (e : lexL s = .ok ts) (hk : k < ts.length) : ∃ j : Nat, (ts.getD k Tok.zero).a = (j : Int) ∧ j ≤ s.length ∧ lexL (s.take j ++ [32] ++ s.drop j) = .ok (ts.take k ++ (ts.drop k).map (shT 1)) := by
  obtain ⟨_, e⟩ := lexL_ok e
  obtain ⟨j, h1, h2, h3⟩ := lexP_blank k _ (s.length + 2) 0 s ts e hk (by omega) (by omega)
  refine ⟨j, (show (ts.getD k Tok.zero).a = _ from h1).trans (by simp), h2, ?_⟩
  have hl : (s.take j ++ 32 :: s.drop j).length = s.length + 1 := by simp; omega
  rw [List.append_assoc, List.singleton_append, lexL_is (by omega), hl, h3]
theorem lex_first {s t : List UInt8} {a : Int} (hs : s.length ≤ 2000) (ht : t.length ≤ 2000) (h : lexL (s ++ [10]) = .error (180, a)) : ∃ j : Nat, a = (j : Int) ∧ j < s.length ∧ (s.getD j 0 = 39 ∨ lexL (s ++ [10] ++ t) = .error (180, a)) := by
  have h1 : lexP ((s ++ [10]).length + 1) 0 (s ++ [10]) = .error (180, a) := by rw [← lexL_is (by simp; omega)]; exact h
  obtain ⟨j, h2, h3, h4⟩ := lexP_first _ ((s ++ 10 :: t).length + 1) 0 s t a h1 (by omega)
  refine ⟨j, by simpa using h2, h3, ?_⟩
  rcases h4 with h4 | h4
  · exact .inl h4
  · right
    rw [List.append_assoc, List.singleton_append, lexL_is (by simp; omega)]
    exact h4
theorem lexR_len (f : Nat) : ∀ (a : Nat) (r : List UInt8) (ts : List Tok), lexR f a r = .ok ts → ts.length ≤ r.length + 1 := by
  induction f with
  | zero => intro a r ts h; cases h
  | succ f ih =>
    intro a r ts h
    cases r with
    | nil => cases h; simp
    | cons c l =>
      unfold lexR at h
      split at h
      · cases h
      · rename_i he
        have hn := one_len (Decidable.not_not.1 he)
        cases hx : lexR f (a + (one (c :: l)).n + gap ((c :: l).drop (one (c :: l)).n)) (((c :: l).drop (one (c :: l)).n).drop (gap ((c :: l).drop (one (c :: l)).n))) with
        | error e => rw [hx] at h; cases h
        | ok ts' =>
          rw [hx] at h
          cases h
          have := ih _ _ _ hx
          simp only [List.length_drop, List.length_cons] at this ⊢
          omega
theorem tks_le {s : List UInt8} {ts : List Tok} {n : Nat} (h : lexL s = .ok ts) (hn : ts.length = n) : n ≤ s.length + 1 := by
  have h1 := lexR_len _ _ _ _ (lexL_ok h).2
  rw [List.length_drop] at h1
  omega
theorem lexR_at (f : Nat) : ∀ (a : Nat) (r : List UInt8) (ts : List Tok), lexR f a r = .ok ts → ∀ t ∈ ts, (a : Int) ≤ t.a ∧ t.a ≤ (a + r.length : Nat) := by
  induction f with
  | zero => intro a r ts h; cases h
  | succ f ih =>
    intro a r ts h
    cases r with
    | nil => cases h; intro t ht; obtain rfl := List.mem_singleton.1 ht; simp
    | cons c l =>
      unfold lexR at h
      split at h
      · cases h
      · rename_i he
        have hn := one_len (Decidable.not_not.1 he)
        cases hx : lexR f (a + (one (c :: l)).n + gap ((c :: l).drop (one (c :: l)).n)) (((c :: l).drop (one (c :: l)).n).drop (gap ((c :: l).drop (one (c :: l)).n))) with
        | error e => rw [hx] at h; cases h
        | ok ts' =>
          rw [hx] at h
          cases h
          have hg : gap ((c :: l).drop (one (c :: l)).n) ≤ ((c :: l).drop (one (c :: l)).n).length := gapM_le false _
          intro t ht
          rcases List.mem_cons.1 ht with rfl | ht
          · simp only [List.length_cons]
            omega
          · have := ih _ _ _ hx t ht
            simp only [List.length_drop, List.length_cons] at this hg ⊢
            omega
theorem tok_at {s : List UInt8} {ts : List Tok} {i : Nat} (h : lexL s = .ok ts) (hi : i < ts.length) : 0 ≤ (ts.getD i Tok.zero).a ∧ (ts.getD i Tok.zero).a ≤ s.length := by
  have h1 := lexR_at _ _ _ _ (lexL_ok h).2 _ (getD_memT ts i hi)
  have h2 : gap s ≤ s.length := gapM_le false s
  simp only [List.length_drop] at h1
  omega
theorem okR_ok {r : Res} (h : okR r = true) : ∃ ts, r = .ok ts := by
  cases r with
  | ok ts => exact ⟨ts, rfl⟩
  | error e => cases h
theorem int_zero (n : Nat) : decide ((n : Int) = 0) = decide (n = 0) := decide_eq_decide.2 (by omega)
theorem tks_zero {s : List UInt8} (h : okR (lexL s) = true) : decide (((tks (lexL s)).length : Int) = 0) = false := by
  obtain ⟨ts, e⟩ := okR_ok h
  have := lex_some e
  rw [e]
  exact decide_eq_false (by simp only [tks]; omega)
theorem parts_bad {s t : List UInt8} (h : (((!okR (lexL s) || !okR (lexL t)) || decide (((tks (lexL s)).length : Int) = 0)) || decide (((tks (lexL t)).length : Int) = 0)) = true) : (!okR (lexL s) || !okR (lexL t)) = true := by
  cases h1 : okR (lexL s) with
  | false => rfl
  | true =>
    cases h2 : okR (lexL t) with
    | false => rfl
    | true => rw [h1, h2, tks_zero h1, tks_zero h2] at h; cases h
theorem parts_good {s t : List UInt8} (h : (((!okR (lexL s) || !okR (lexL t)) || decide (((tks (lexL s)).length : Int) = 0)) || decide (((tks (lexL t)).length : Int) = 0)) = false) : (∃ ts, lexL s = .ok ts) ∧ ∃ us, lexL t = .ok us := by
  simp only [Bool.or_eq_false_iff, Bool.not_eq_false'] at h
  exact ⟨okR_ok h.1.1.1, okR_ok h.1.1.2⟩
theorem tmod_bd {x n : Int} (h : 0 < n) : -n < x.tmod n ∧ x.tmod n < n := by
  have h1 := Int.tmod_lt_of_pos x h
  refine ⟨?_, h1⟩
  have h2 := Int.tmod_lt_of_pos (-x) h
  rw [Int.neg_tmod] at h2
  omega
def bothT (ts us : List Tok) (n : Nat) : List Tok := ts.dropLast ++ us.map (shT ((n : Int) + 1))
theorem bothT_len {ts us : List Tok} {n : Nat} : (bothT ts us n).length = ts.length - 1 + us.length := by simp [bothT]
theorem bothT_low {ts us : List Tok} {n i : Nat} (h : i < ts.length - 1) : (bothT ts us n).getD i Tok.zero = ts.getD i Tok.zero := by
  simp [bothT, List.getD, List.getElem?_append_left, h, List.getElem?_dropLast, show i < ts.length by omega]
theorem bothT_high {ts us : List Tok} {n i : Nat} (h1 : ¬ i < ts.length - 1) (h2 : i < ts.length - 1 + us.length) (h3 : 0 < ts.length) : (bothT ts us n).getD i Tok.zero = shT ((n : Int) + 1) (us.getD (i + 1 - ts.length) Tok.zero) := by
  have e : i - (ts.length - 1) = i + 1 - ts.length := by omega
  have h4 : i + 1 - ts.length < us.length := by omega
  rw [bothT, List.getD_eq_getElem?_getD, List.getElem?_append_right (by simp; omega)]
  simp only [List.length_dropLast, List.getElem?_map, e]
  simp [List.getD, h4]
theorem blankT_get {ts : List Tok} {k i : Nat} (h : i < ts.length) : (ts.take k ++ (ts.drop k).map (shT 1)).getD i Tok.zero = if k ≤ i then shT 1 (ts.getD i Tok.zero) else ts.getD i Tok.zero := by
  by_cases hk : k ≤ i
  · rw [if_pos hk, List.getD_eq_getElem?_getD, List.getElem?_append_right (by rw [List.length_take]; omega)]
    have e : k + (i - (ts.take k).length) = i := by rw [List.length_take]; omega
    rw [List.getElem?_map, List.getElem?_drop, e]
    simp [List.getD, h]
  · rw [if_neg hk, List.getD_eq_getElem?_getD, List.getElem?_append_left (by rw [List.length_take]; omega), List.getElem?_take, if_pos (by omega)]
    simp [List.getD]
theorem toksV_a (l : List Tok) (i : Nat) (h : i < l.length) : (toksV l)[i * 3 + 2]? = some (.int .i64 (l.getD i Tok.zero).a) := by
  have e := toksV_at l i h
  have e2 : ((toksV l).drop (i * 3))[2]? = (l.getD i Tok.zero).cs[2]? := by rw [← e]; simp
  rw [List.getElem?_drop] at e2
  rw [e2]; rfl
theorem toksV_k (l : List Tok) (i : Nat) (h : i < l.length) : (toksV l)[i * 3]? = some (.int .i64 (l.getD i Tok.zero).k) := by
  have e := toksV_at l i h
  have e2 : ((toksV l).drop (i * 3))[0]? = (l.getD i Tok.zero).cs[0]? := by rw [← e]; simp
  rw [List.getElem?_drop] at e2
  rw [Nat.add_zero] at e2
  rw [e2]; rfl
/-- Rows of texts. -/
def strsV (l : List (List UInt8)) : List Value := l.map fun x => .string (B x)
theorem strsV_length (l : List (List UInt8)) : (strsV l).length = l.length := by simp [strsV]
theorem strsV_get (l : List (List UInt8)) (k j : Nat) (h : j = k) (hk : k < l.length) : (strsV l)[j]? = some (.string (B (l.getD k []))) := by
  subst h
  simp [strsV, List.getD, hk]
theorem getD_memS (l : List (List UInt8)) (k : Nat) (h : k < l.length) : l.getD k [] ∈ l := by simp [List.getD, h]
theorem take_snocS (l : List (List UInt8)) (k : Nat) (h : k < l.length) : l.take (k + 1) = l.take k ++ [l.getD k []] := by
  rw [List.take_succ_eq_append_getElem h]; simp [List.getD, h]
end Go.WK
