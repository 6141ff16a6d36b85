/- The tokens of texts put one behind the other, with a line's end between; a blank ahead of a token; the first fault. Plain: no program in sight. -/
import Derived.Test.YtdcdpegomncomaaGreatDoorLex1
namespace Go.WK
open Go.RowKit

def shT (d : Int) (t : Tok) : Tok := ⟨t.k, t.t, t.a + d⟩
def shR (d : Int) : Res → Res
  | .error (e, p) => .error (e, p + d)
  | .ok ts => .ok (ts.map (shT d))
theorem one_len {c : UInt8} {l : List UInt8} (h : (one (c :: l)).e = 0) : 1 ≤ (one (c :: l)).n ∧ (one (c :: l)).n ≤ l.length + 1 := by
  obtain ⟨h1, h2, _⟩ := one_n h
  exact ⟨h1, by simpa using h2⟩
theorem lexR_fuel (f : Nat) : ∀ (f' at_ : Nat) (r : List UInt8), r.length < f → r.length < f' → lexR f at_ r = lexR f' at_ r := by
  induction f with
  | zero => intro f' at_ r h; omega
  | succ f ih =>
    intro f' at_ r h h'
    obtain ⟨f', rfl⟩ : ∃ k, f' = k + 1 := ⟨f' - 1, by omega⟩
    cases r with
    | nil => rfl
    | cons c l =>
      unfold lexR
      split
      · rfl
      · rename_i he
        have he : (one (c :: l)).e = 0 := Decidable.not_not.1 he
        have hn := one_len he
        simp only [List.length_cons] at h h'
        rw [ih f' _ _ (by simp only [List.length_drop, List.length_cons]; omega) (by simp only [List.length_drop, List.length_cons]; omega)]
theorem lexP_fuel {f f' o : Nat} {q : List UInt8} (h : q.length < f) (h' : q.length < f') : lexP f o q = lexP f' o q :=
  lexR_fuel f f' _ _ (by simp only [List.length_drop]; omega) (by simp only [List.length_drop]; omega)
theorem lexR_shift (f : Nat) : ∀ (at_ d : Nat) (r : List UInt8), 0 < f → r.length < f → lexR f (at_ + d) r = shR d (lexR f at_ r) := by
  induction f with
  | zero => intro at_ d r h; omega
  | succ f ih =>
    intro at_ d r _ h'
    cases r with
    | nil => simp [lexR, shR, shT]
    | cons c l =>
      unfold lexR
      split
      · simp [shR]
      · rename_i he
        have he : (one (c :: l)).e = 0 := Decidable.not_not.1 he
        have hn := one_len he
        simp only [List.length_cons] at h'
        rw [show at_ + d + (one (c :: l)).n + gap ((c :: l).drop (one (c :: l)).n) = at_ + (one (c :: l)).n + gap ((c :: l).drop (one (c :: l)).n) + d by omega]
        rw [ih _ d _ (by omega) (by simp only [List.length_drop, List.length_cons]; omega)]
        generalize lexR f _ _ = x
        cases x with
        | error p => simp [shR, Except.map]
        | ok ts => simp [shR, Except.map, shT]
theorem lexP_nil {f o : Nat} {q : List UInt8} (hq : q.drop (gap q) = []) : lexP (f + 1) o q = .ok [⟨5, [], ((o + gap q : Nat) : Int)⟩] := by
  unfold lexP; rw [hq]; rfl
theorem lexP_cons {f o : Nat} {q l : List UInt8} {c : UInt8} (hq : q.drop (gap q) = c :: l) : lexP (f + 1) o q = if (one (c :: l)).e ≠ 0 then .error ((one (c :: l)).e, ((o + gap q : Nat) : Int)) else
    (lexP f (o + gap q + (one (c :: l)).n) ((c :: l).drop (one (c :: l)).n)).map (⟨(one (c :: l)).k, (one (c :: l)).t, ((o + gap q : Nat) : Int)⟩ :: ·) := by
  unfold lexP; rw [hq]; rfl
theorem drop_at {p r : List UInt8} {n : Nat} (h : p.length = n) (i : Nat) : (p ++ r).drop (n + i) = r.drop i := by
  subst h
  rw [← List.drop_drop, List.drop_left]
theorem gap_all_of {q : List UInt8} (h : q.drop (gap q) = []) : gap q = q.length := by
  have h1 : gap q ≤ q.length := gapM_le false q
  have := List.drop_eq_nil_iff.1 h
  omega
theorem lexP_some {f o : Nat} {q : List UInt8} {ts : List Tok} (h : lexP f o q = .ok ts) : ts ≠ [] := by
  cases f with
  | zero => cases h
  | succ f =>
    cases hq : q.drop (gap q) with
    | nil => rw [lexP_nil hq] at h; cases h; simp
    | cons c l =>
      rw [lexP_cons hq] at h
      split at h
      · cases h
      · cases hx : lexP f (o + gap q + (one (c :: l)).n) ((c :: l).drop (one (c :: l)).n) with
        | error p => rw [hx] at h; cases h
        | ok ts' => rw [hx] at h; cases h; simp
/-- Texts put one behind the other, with a line's end between. -/
theorem lexP_parts (f : Nat) : ∀ (f' o : Nat) (q t : List UInt8) (ts : List Tok), lexP f o q = .ok ts → (q ++ 10 :: t).length < f' → lexP f' o (q ++ 10 :: t) = (lexP f' (o + q.length + 1) t).map (ts.dropLast ++ ·) := by
  induction f with
  | zero => intro f' o q t ts h; cases h
  | succ f ih =>
    intro f' o q t ts h hf
    obtain ⟨f', rfl⟩ : ∃ k, f' = k + 1 := ⟨f' - 1, by omega⟩
    cases hq : q.drop (gap q) with
    | nil =>
      rw [lexP_nil hq] at h
      cases h
      have hg := gap_all_of hq
      have h2 : gap (q ++ 10 :: t) = q.length + 1 + gap t := gap_all false q t hg
      show lexR (f' + 1) (o + gap (q ++ 10 :: t)) ((q ++ 10 :: t).drop (gap (q ++ 10 :: t))) = _
      rw [h2]
      have hd : (q ++ 10 :: t).drop (q.length + 1 + gap t) = t.drop (gap t) := by
        rw [Nat.add_assoc, drop_at rfl, Nat.add_comm 1, List.drop_succ_cons]
      rw [hd, show o + (q.length + 1 + gap t) = o + q.length + 1 + gap t by omega]
      show lexP (f' + 1) (o + q.length + 1) t = _
      cases lexP (f' + 1) (o + q.length + 1) t <;> simp [Except.map]
    | cons c l =>
      rw [lexP_cons hq] at h
      split at h
      · cases h
      · rename_i he
        have he : (one (c :: l)).e = 0 := Decidable.not_not.1 he
        have hn := one_len he
        cases hx : lexP f (o + gap q + (one (c :: l)).n) ((c :: l).drop (one (c :: l)).n) with
        | error p => rw [hx] at h; cases h
        | ok ts' =>
          rw [hx] at h
          cases h
          have hqs : q = q.take (gap q) ++ c :: l := by rw [← hq]; exact (List.take_append_drop _ _).symm
          have hgl : (q.take (gap q)).length = gap q := by rw [List.length_take]; exact Nat.min_eq_left (gapM_le _ _)
          have hql : q.length = gap q + (l.length + 1) := by
            have := congrArg List.length hq
            simp only [List.length_drop, List.length_cons] at this
            have := gapM_le false q
            omega
          have hg : gap (q ++ 10 :: t) = gap q := by
            have h1 : gapM false (q.take (gap q) ++ c :: l) = (q.take (gap q)).length := by rw [← hqs, hgl]
            have h2 := gap_same false _ c l (l ++ 10 :: t) h1 (by cases l <;> simp)
            rw [← List.cons_append, ← List.append_assoc, ← hqs, hgl] at h2
            exact h2
          have hd : (q ++ 10 :: t).drop (gap (q ++ 10 :: t)) = c :: (l ++ 10 :: t) := by
            rw [hg, List.drop_append_of_le_length (gapM_le _ _), hq]; rfl
          have ho : one (c :: (l ++ 10 :: t)) = one (c :: l) := by
            have e1 : c :: l = (c :: l).take (one (c :: l)).n ++ (c :: l).drop (one (c :: l)).n := (List.take_append_drop _ _).symm
            have hp : (c :: l).take (one (c :: l)).n ≠ [] := by
              intro e
              have := congrArg List.length e
              simp only [List.length_take, List.length_cons, List.length_nil] at this
              omega
            have h3 := one_cut (p := (c :: l).take (one (c :: l)).n) (r := (c :: l).drop (one (c :: l)).n) (r' := (c :: l).drop (one (c :: l)).n ++ 10 :: t) hp (by rw [← e1]; exact he) (by rw [← e1]; simp only [List.length_take, List.length_cons]; omega) (by
              cases hx : (c :: l).drop (one (c :: l)).n with
              | nil => exact .inr (.inr (.inl rfl))
              | cons => exact .inl rfl)
            rw [← e1, ← List.append_assoc, ← e1] at h3
            exact h3
          rw [lexP_cons hd, ho, if_neg (by rw [he]; simp), hg]
          have hdd : (c :: (l ++ 10 :: t)).drop (one (c :: l)).n = (c :: l).drop (one (c :: l)).n ++ 10 :: t := by
            rw [← List.cons_append, List.drop_append_of_le_length (by simp only [List.length_cons]; omega)]
          rw [hdd, ih f' _ _ t ts' hx (by simp only [List.length_append, List.length_cons, List.length_drop] at hf ⊢; omega)]
          have hl' : o + gap q + (one (c :: l)).n + ((c :: l).drop (one (c :: l)).n).length + 1 = o + q.length + 1 := by simp only [List.length_drop, List.length_cons]; omega
          rw [hl', lexP_fuel (f := f') (f' := f' + 1) (by simp only [List.length_append, List.length_cons] at hf; omega) (by simp only [List.length_append, List.length_cons] at hf; omega)]
          have hts : (⟨(one (c :: l)).k, (one (c :: l)).t, ((o + gap q : Nat) : Int)⟩ :: ts' : List Tok).dropLast = ⟨(one (c :: l)).k, (one (c :: l)).t, ((o + gap q : Nat) : Int)⟩ :: ts'.dropLast := List.dropLast_cons_of_ne_nil (lexP_some hx)
          rw [hts]
          cases lexP (f' + 1) (o + q.length + 1) t <;> simp [Except.map]
/-- A blank ahead of a token. -/
theorem lexP_blank (k : Nat) : ∀ (f f' o : Nat) (q : List UInt8) (ts : List Tok), lexP f o q = .ok ts → k < ts.length → q.length < f → q.length + 1 < f' →
    ∃ j : Nat, (ts.getD k ⟨0, [], 0⟩).a = ((o + j : Nat) : Int) ∧ j ≤ q.length ∧ lexP f' o (q.take j ++ 32 :: q.drop j) = .ok (ts.take k ++ (ts.drop k).map (shT 1)) := by
  induction k with
  | zero =>
    intro f f' o q ts h hk hf hf'
    obtain ⟨f, rfl⟩ : ∃ k, f = k + 1 := ⟨f - 1, by omega⟩
    obtain ⟨f', rfl⟩ : ∃ k, f' = k + 1 := ⟨f' - 1, by omega⟩
    refine ⟨gap q, ?_, gapM_le _ _, ?_⟩
    · cases hq : q.drop (gap q) with
      | nil => rw [lexP_nil hq] at h; cases h; rfl
      | cons c l =>
        rw [lexP_cons hq] at h
        split at h
        · cases h
        · cases hx : lexP f (o + gap q + (one (c :: l)).n) ((c :: l).drop (one (c :: l)).n) with
          | error p => rw [hx] at h; cases h
          | ok ts' => rw [hx] at h; cases h; rfl
    · cases hq : q.drop (gap q) with
      | nil =>
        have hg := gap_all_of hq
        rw [lexP_nil hq] at h
        cases h
        rw [List.take_of_length_le (by omega)]
        have h2 : gap (q ++ [32]) = q.length + 1 := gap_end false q hg
        have hd : (q ++ [32]).drop (gap (q ++ [32])) = [] := by rw [h2]; simp
        rw [lexP_nil hd, h2]
        simp [shT, hg]
        omega
      | cons c l =>
        have hqs : q = q.take (gap q) ++ c :: l := by rw [← hq]; exact (List.take_append_drop _ _).symm
        have hgl : (q.take (gap q)).length = gap q := by rw [List.length_take]; exact Nat.min_eq_left (gapM_le _ _)
        have h1 : gapM false (q.take (gap q) ++ c :: l) = (q.take (gap q)).length := by rw [← hqs, hgl]
        have h2 : gap (q.take (gap q) ++ 32 :: c :: l) = gap q + 1 := by
          have := gap_blank false _ c l h1
          rwa [hgl] at this
        have hd : (q.take (gap q) ++ 32 :: c :: l).drop (gap q + 1) = q.drop (gap q) := by
          rw [hq, drop_at hgl]; rfl
        show lexR (f' + 1) (o + gap (q.take (gap q) ++ 32 :: c :: l)) ((q.take (gap q) ++ 32 :: c :: l).drop (gap (q.take (gap q) ++ 32 :: c :: l))) = _
        rw [h2, hd, ← Nat.add_assoc, lexR_shift _ _ _ _ (by omega) (by simp only [List.length_drop]; omega)]
        have h3 : lexR (f' + 1) (o + gap q) (q.drop (gap q)) = .ok ts := by rw [← h]; exact lexP_fuel (o := o) (q := q) (by omega) (by omega)
        rw [h3]
        simp [shR]
  | succ k ih =>
    intro f f' o q ts h hk hf hf'
    obtain ⟨f, rfl⟩ : ∃ k, f = k + 1 := ⟨f - 1, by omega⟩
    obtain ⟨f', rfl⟩ : ∃ k, f' = k + 1 := ⟨f' - 1, by omega⟩
    cases hq : q.drop (gap q) with
    | nil => rw [lexP_nil hq] at h; cases h; simp at hk
    | cons c l =>
      rw [lexP_cons hq] at h
      split at h
      · cases h
      · rename_i he
        have he : (one (c :: l)).e = 0 := Decidable.not_not.1 he
        have hn := one_len he
        cases hx : lexP f (o + gap q + (one (c :: l)).n) ((c :: l).drop (one (c :: l)).n) with
        | error p => rw [hx] at h; cases h
        | ok ts' =>
          rw [hx] at h
          cases h
          have hqs : q = q.take (gap q) ++ c :: l := by rw [← hq]; exact (List.take_append_drop _ _).symm
          have hgl : (q.take (gap q)).length = gap q := by rw [List.length_take]; exact Nat.min_eq_left (gapM_le _ _)
          have hql : q.length = gap q + (l.length + 1) := by
            have := congrArg List.length hq
            simp only [List.length_drop, List.length_cons] at this
            have := gapM_le false q
            omega
          have hlen : ((c :: l).drop (one (c :: l)).n).length = l.length + 1 - (one (c :: l)).n := by simp only [List.length_drop, List.length_cons]
          obtain ⟨j, hj1, hj2, hj3⟩ := ih f f' _ _ ts' hx (by simpa using hk) (by omega) (by omega)
          have e1 : c :: l = (c :: l).take (one (c :: l)).n ++ (c :: l).drop (one (c :: l)).n := (List.take_append_drop _ _).symm
          generalize hX : ((c :: l).drop (one (c :: l)).n).take j ++ 32 :: ((c :: l).drop (one (c :: l)).n).drop j = X at hj3
          have hXh : X.head? = ((c :: l).drop (one (c :: l)).n).head? ∨ X.head? = some 32 := by
            rw [← hX]
            cases j with
            | zero => right; rfl
            | succ j =>
              left
              cases hy : (c :: l).drop (one (c :: l)).n with
              | nil => rw [hy] at hj2; simp at hj2
              | cons => rfl
          have htk : (c :: l).take (one (c :: l)).n = c :: l.take ((one (c :: l)).n - 1) := by
            obtain ⟨m, hm⟩ : ∃ m, (one (c :: l)).n = m + 1 := ⟨(one (c :: l)).n - 1, by omega⟩
            rw [hm]; rfl
          have hdr : (c :: l).drop (one (c :: l)).n = l.drop ((one (c :: l)).n - 1) := by
            obtain ⟨m, hm⟩ : ∃ m, (one (c :: l)).n = m + 1 := ⟨(one (c :: l)).n - 1, by omega⟩
            rw [hm]; rfl
          have hwhole : q.take (gap q + (one (c :: l)).n + j) ++ 32 :: q.drop (gap q + (one (c :: l)).n + j) = q.take (gap q) ++ c :: (l.take ((one (c :: l)).n - 1) ++ X) := by
            have t1 : q.take (gap q + (one (c :: l)).n + j) = q.take (gap q) ++ ((c :: l).take (one (c :: l)).n ++ ((c :: l).drop (one (c :: l)).n).take j) := by
              rw [Nat.add_assoc, List.take_add, hq, List.take_add]
            have t2 : q.drop (gap q + (one (c :: l)).n + j) = ((c :: l).drop (one (c :: l)).n).drop j := by
              rw [Nat.add_assoc, ← List.drop_drop, hq, ← List.drop_drop]
            rw [t1, t2, htk, List.append_assoc, List.append_assoc, hX]; rfl
          have hg : gap (q.take (gap q) ++ c :: (l.take ((one (c :: l)).n - 1) ++ X)) = gap q := by
            have h1 : gapM false (q.take (gap q) ++ c :: l) = (q.take (gap q)).length := by rw [← hqs, hgl]
            have h2 := gap_same false _ c l (l.take ((one (c :: l)).n - 1) ++ X) h1 (by
              rcases Nat.eq_zero_or_pos ((one (c :: l)).n - 1) with e | e
              · rw [e] at hdr ⊢
                rw [hdr] at hXh
                simp only [List.take_zero, List.nil_append, List.drop_zero] at hXh ⊢
                rcases hXh with e | e
                · exact .inl e
                · right; rw [e]; decide
              · left
                cases l with
                | nil => simp at hn; omega
                | cons x l =>
                  obtain ⟨m, hm⟩ : ∃ m, (one (c :: x :: l)).n - 1 = m + 1 := ⟨(one (c :: x :: l)).n - 1 - 1, by omega⟩
                  rw [hm]; rfl)
            rw [hgl] at h2
            exact h2
          have hd : (q.take (gap q) ++ c :: (l.take ((one (c :: l)).n - 1) ++ X)).drop (gap (q.take (gap q) ++ c :: (l.take ((one (c :: l)).n - 1) ++ X))) = c :: (l.take ((one (c :: l)).n - 1) ++ X) := by
            rw [hg]
            exact drop_at hgl 0
          have ho : one (c :: (l.take ((one (c :: l)).n - 1) ++ X)) = one (c :: l) := by
            have hp : (c :: l).take (one (c :: l)).n ≠ [] := by rw [htk]; simp
            have h3 := one_cut (p := (c :: l).take (one (c :: l)).n) (r := (c :: l).drop (one (c :: l)).n) (r' := X) hp (by rw [← e1]; exact he) (by rw [← e1]; simp only [List.length_take, List.length_cons]; omega) (by
              rcases hXh with e | e
              · exact .inl e
              · exact .inr (.inl e))
            rw [← e1, htk] at h3
            exact h3
          refine ⟨gap q + (one (c :: l)).n + j, ?_, by omega, ?_⟩
          · have : (ts'.getD k ⟨0, [], 0⟩).a = _ := hj1
            simp only [List.getD_cons_succ]
            rw [this]
            congr 1
            omega
          · rw [hwhole, lexP_cons hd, ho, if_neg (by rw [he]; simp), hg]
            have hdd : (c :: (l.take ((one (c :: l)).n - 1) ++ X)).drop (one (c :: l)).n = X := by
              obtain ⟨m, hm⟩ : ∃ m, (one (c :: l)).n = m + 1 := ⟨(one (c :: l)).n - 1, by omega⟩
              rw [hm, List.drop_succ_cons, Nat.add_sub_cancel]
              have : (l.take m).length = m := by rw [List.length_take]; omega
              exact drop_at this 0
            rw [hdd, hj3]
            simp [Except.map]
/-- The first fault that is no text's, whatever follows the line's end. -/
theorem lexP_first (f : Nat) : ∀ (f' o : Nat) (q t : List UInt8) (a : Int), lexP f o (q ++ [10]) = .error (180, a) → (q ++ 10 :: t).length < f' →
    ∃ j : Nat, a = ((o + j : Nat) : Int) ∧ j < q.length ∧ (q.getD j 0 = 39 ∨ lexP f' o (q ++ 10 :: t) = .error (180, a)) := by
  induction f with
  | zero => intro f' o q t a h; cases h
  | succ f ih =>
    intro f' o q t a h hf
    obtain ⟨f', rfl⟩ : ∃ k, f' = k + 1 := ⟨f' - 1, by omega⟩
    cases hq : (q ++ [10]).drop (gap (q ++ [10])) with
    | nil => rw [lexP_nil hq] at h; cases h
    | cons c l =>
      have hgd : gap (c :: l) = 0 := by rw [← hq]; exact gap_drop false _
      have hbl : isBl c = false := by
        cases hb : isBl c with
        | false => rfl
        | true => rw [gap, gapM, if_pos hb] at hgd; omega
      have hgq : gap (q ++ [10]) < q.length := by
        rcases Nat.lt_or_ge (gap (q ++ [10])) q.length with e | e
        · exact e
        · exfalso
          rw [List.drop_append, List.drop_eq_nil_of_le e, List.nil_append] at hq
          cases hy : gap (q ++ [10]) - q.length with
          | zero => rw [hy] at hq; simp at hq; rw [← hq.1] at hbl; cases hbl
          | succ m => rw [hy] at hq; simp at hq
      have hq' : (q ++ [10]).drop (gap (q ++ [10])) = q.drop (gap (q ++ [10])) ++ [10] := List.drop_append_of_le_length (by omega)
      obtain ⟨l0, hl0⟩ : ∃ l0, q.drop (gap (q ++ [10])) = c :: l0 := by
        cases hy : q.drop (gap (q ++ [10])) with
        | nil => have := List.drop_eq_nil_iff.1 hy; omega
        | cons x l0 =>
          rw [hq', hy] at hq
          simp at hq
          exact ⟨l0, by rw [hq.1]⟩
      have hl : l = l0 ++ [10] := by
        rw [hq', hl0] at hq
        simp at hq
        exact hq.symm
      subst hl
      have hqs : q = q.take (gap (q ++ [10])) ++ c :: l0 := by rw [← hl0]; exact (List.take_append_drop _ _).symm
      have hgl : (q.take (gap (q ++ [10]))).length = gap (q ++ [10]) := by rw [List.length_take]; omega
      have hql : q.length = gap (q ++ [10]) + (l0.length + 1) := by
        have := congrArg List.length hl0
        simp only [List.length_drop, List.length_cons] at this
        omega
      have hg : gap (q ++ 10 :: t) = gap (q ++ [10]) := by
        have h1 : gapM false (q.take (gap (q ++ [10])) ++ c :: (l0 ++ [10])) = (q.take (gap (q ++ [10]))).length := by
          rw [← List.cons_append, ← List.append_assoc, ← hqs, hgl]
        have h2 := gap_same false _ c (l0 ++ [10]) (l0 ++ 10 :: t) h1 (by cases l0 <;> simp)
        rw [← List.cons_append, ← List.append_assoc, ← hqs, hgl] at h2
        exact h2
      have hd : (q ++ 10 :: t).drop (gap (q ++ 10 :: t)) = c :: (l0 ++ 10 :: t) := by
        rw [hg, List.drop_append_of_le_length (by omega), hl0]; rfl
      have hat : q.getD (gap (q ++ [10])) 0 = c := by
        have := congrArg (fun x : List UInt8 => x.getD 0 0) hl0
        simpa [List.getD] using this
      rw [lexP_cons hq] at h
      split at h
      · rename_i he
        have e2 := Except.error.inj h
        simp only [Prod.mk.injEq] at e2
        refine ⟨gap (q ++ [10]), e2.2.symm, hgq, ?_⟩
        by_cases hc : c = 39
        · left; rw [hat]; exact hc
        · right
          have hb : (one (c :: (l0 ++ 10 :: t))).e = 180 := one_bad (q := l0) (by rw [List.cons_append]; exact e2.1) hc
          rw [lexP_cons hd, hb, if_pos (by decide), hg, e2.2]
      · rename_i he
        have he : (one (c :: (l0 ++ [10]))).e = 0 := Decidable.not_not.1 he
        obtain ⟨n1, n2, n3⟩ := one_n he
        generalize hN : (one (c :: (l0 ++ [10]))).n = n at *
        have hnle : n ≤ (c :: l0).length := by
          rcases Nat.lt_or_ge (c :: l0).length n with e | e
          · exfalso
            apply n3
            have : n - 1 = (c :: l0).length := by simp only [List.length_cons, List.length_append, List.length_nil] at n2 e ⊢; omega
            rw [this, ← List.cons_append, getD_head]; rfl
          · exact e
        have e1 : c :: l0 = (c :: l0).take n ++ (c :: l0).drop n := (List.take_append_drop _ _).symm
        have hdn : (c :: (l0 ++ [10])).drop n = (c :: l0).drop n ++ [10] := by rw [← List.cons_append, List.drop_append_of_le_length hnle]
        have hdt : (c :: (l0 ++ 10 :: t)).drop n = (c :: l0).drop n ++ 10 :: t := by rw [← List.cons_append, List.drop_append_of_le_length hnle]
        rw [hdn] at h
        cases hx : lexP f (o + gap (q ++ [10]) + n) ((c :: l0).drop n ++ [10]) with
        | ok ts => rw [hx] at h; cases h
        | error p =>
          rw [hx] at h
          have e2 : p = (180, a) := Except.error.inj h
          subst e2
          obtain ⟨j, hj1, hj2, hj3⟩ := ih f' _ _ t _ hx (by simp only [List.length_append, List.length_cons, List.length_drop] at hf ⊢; omega)
          have hjl : j < l0.length + 1 - n := by simpa using hj2
          refine ⟨gap (q ++ [10]) + n + j, by rw [hj1]; congr 1; omega, by omega, ?_⟩
          rcases hj3 with hj3 | hj3
          · left
            rw [← hl0] at hj3
            have : q.getD (gap (q ++ [10]) + n + j) 0 = ((q.drop (gap (q ++ [10]))).drop n).getD j 0 := by
              simp [List.getD, Nat.add_assoc]
            rw [this]; exact hj3
          · right
            have ho : one (c :: (l0 ++ 10 :: t)) = one (c :: (l0 ++ [10])) := by
              have hp : (c :: l0).take n ≠ [] := by
                intro e
                have := congrArg List.length e
                simp only [List.length_take, List.length_cons, List.length_nil] at this
                omega
              have e3 : c :: (l0 ++ [10]) = (c :: l0).take n ++ ((c :: l0).drop n ++ [10]) := by rw [← List.append_assoc, ← e1]; rfl
              have e4 : c :: (l0 ++ 10 :: t) = (c :: l0).take n ++ ((c :: l0).drop n ++ 10 :: t) := by rw [← List.append_assoc, ← e1]; rfl
              have h3 := one_cut (p := (c :: l0).take n) (r := (c :: l0).drop n ++ [10]) (r' := (c :: l0).drop n ++ 10 :: t) hp (by rw [← e3]; exact he) (by rw [← e3, hN, List.length_take]; omega) (by
                left; cases (c :: l0).drop n <;> rfl)
              rw [e3, e4]; exact h3
            rw [lexP_cons hd, ho, if_neg (by rw [he]; simp), hg, hN, hdt, hj3]
            rfl
end Go.WK
