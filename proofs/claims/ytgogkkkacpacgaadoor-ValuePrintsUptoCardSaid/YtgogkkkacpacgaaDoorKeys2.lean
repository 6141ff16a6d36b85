/- The keys' plain laws: keys stand in the order of their rows; what is encoded is decoded as it was, and back; the ends of intervals. No program in sight. -/
import Derived.Test.YtgogkkkacpacgaaDoorKeys1
namespace Go.WK
open Go.RowKit

/-! ### The order of texts -/
theorem cmpB_neg : ∀ a b : List UInt8, cmpB b a = - cmpB a b
  | [], [] => rfl
  | [], _ :: _ => rfl
  | _ :: _, [] => rfl
  | c :: a, d :: b => by
    have := cmpB_neg a b
    simp only [cmpB]
    split <;> split <;> (try omega) <;> simp_all
theorem cmpB_self : ∀ a : List UInt8, cmpB a a = 0
  | [] => rfl
  | c :: a => by simp [cmpB, cmpB_self a]
theorem cmpB_zero : ∀ a b : List UInt8, cmpB a b = 0 ↔ a = b
  | [], [] => by simp [cmpB]
  | [], _ :: _ => by simp [cmpB]
  | _ :: _, [] => by simp [cmpB]
  | c :: a, d :: b => by
    simp only [cmpB, List.cons.injEq]
    rcases Nat.lt_trichotomy c.toNat d.toNat with h | h | h
    · rw [if_pos h]
      exact ⟨fun h => by simp at h, fun ⟨e, _⟩ => by subst e; omega⟩
    · rw [if_neg (by omega), if_neg (by omega), cmpB_zero a b]
      simp [UInt8.toNat_inj.1 h]
    · rw [if_neg (by omega), if_pos h]
      exact ⟨fun h => by simp at h, fun ⟨e, _⟩ => by subst e; omega⟩
theorem cmpB_less : ∀ a b : List UInt8, Op.bytesLess a b = decide (cmpB a b < 0)
  | [], [] => rfl
  | [], _ :: _ => rfl
  | _ :: _, [] => rfl
  | c :: a, d :: b => by
    have ih := cmpB_less a b
    simp only [cmpB, Op.bytesLess]
    rcases Nat.lt_trichotomy c.toNat d.toNat with h | h | h
    · have h1 : c < d := UInt8.lt_iff_toNat_lt.2 h
      simp [h, h1]
    · have h1 : c = d := UInt8.toNat_inj.1 h
      subst h1
      simp [ih]
    · have h1 : ¬ c < d := fun e => by have := UInt8.lt_iff_toNat_lt.1 e; omega
      have h2 : c ≠ d := fun e => by subst e; omega
      have h3 : ¬ c.toNat < d.toNat := by omega
      simp [h, h1, h2, h3]

/-! ### One value -/
theorem cmpB_be (x y : List UInt8) : ∀ (k u w : Nat), cmpB (beN k u ++ x) (beN k w ++ y) = if u % 256 ^ k < w % 256 ^ k then -1 else if w % 256 ^ k < u % 256 ^ k then 1 else cmpB x y
  | 0, u, w => by simp [beN, Nat.mod_one]
  | k + 1, u, w => by
    have ih := cmpB_be x y k u w
    have hp : 0 < 256 ^ k := Nat.pow_pos (by decide)
    have e1 : ∀ n : Nat, n % 256 ^ (k + 1) = 256 ^ k * (n / 256 ^ k % 256) + n % 256 ^ k := fun n => by
      rw [Nat.pow_succ, Nat.mod_mul]; omega
    have e2 : ∀ n : Nat, (UInt8.ofNat (n / 256 ^ k)).toNat = n / 256 ^ k % 256 := fun n => by simp [UInt8.toNat_ofNat']
    simp only [beN, List.cons_append, cmpB, e2, ih, e1]
    have h1 := Nat.mod_lt u hp
    have h2 := Nat.mod_lt w hp
    generalize 256 ^ k = p at *
    generalize u / p % 256 = a
    generalize w / p % 256 = b
    generalize u % p = c at *
    generalize w % p = d at *
    rcases Nat.lt_trichotomy a b with h | h | h
    · have : p * a + p ≤ p * b := by rw [← Nat.mul_succ]; exact Nat.mul_le_mul_left _ h
      rw [if_pos h, if_pos (by omega)]
    · subst h
      simp
    · have : p * b + p ≤ p * a := by rw [← Nat.mul_succ]; exact Nat.mul_le_mul_left _ h
      rw [if_neg (by omega), if_pos h, if_neg (by omega), if_pos (by omega)]
theorem cmpB_esc (x y : List UInt8) : ∀ s t : List UInt8, cmpB (esc s ++ 0 :: 1 :: x) (esc t ++ 0 :: 1 :: y) = if cmpB s t = 0 then cmpB x y else cmpB s t
  | [], [] => by simp [esc, cmpB]
  | [], d :: t => by
    by_cases hd : d = 0
    · subst hd; simp [esc, cmpB]
    · have : 0 < d.toNat := by rcases Nat.eq_zero_or_pos d.toNat with h | h; exact absurd (UInt8.toNat_inj.1 h) hd; exact h
      simp [esc, hd, cmpB, this]
  | c :: s, [] => by
    by_cases hd : c = 0
    · subst hd; simp [esc, cmpB]
    · have : 0 < c.toNat := by rcases Nat.eq_zero_or_pos c.toNat with h | h; exact absurd (UInt8.toNat_inj.1 h) hd; exact h
      simp [esc, hd, cmpB, this]
  | c :: s, d :: t => by
    have ih := cmpB_esc x y s t
    have pos : ∀ e : UInt8, e ≠ 0 → 0 < e.toNat := fun e he => by rcases Nat.eq_zero_or_pos e.toNat with h | h; exact absurd (UInt8.toNat_inj.1 h) he; exact h
    by_cases hc : c = 0
    · by_cases hd : d = 0
      · subst hc; subst hd; simp [esc, cmpB, ih]
      · subst hc
        have := pos d hd
        simp [esc, hd, cmpB, this]
    · have hcp := pos c hc
      by_cases hd : d = 0
      · subst hd
        have h0 : ¬ c.toNat < 0 := by omega
        simp [esc, hc, cmpB, hcp]
      · simp only [esc, hc, hd, if_false, List.cons_append, cmpB, ih]
        rcases Nat.lt_trichotomy c.toNat d.toNat with h | h | h
        · simp [h]
        · rw [if_neg (by omega), if_neg (by omega)]
          simp [h]
        · have h3 : ¬ c.toNat < d.toNat := by omega
          simp [h, h3]
theorem may_null {v : Val} (h : may v = true) (k : v.k = 0) : v.n = 0 ∧ v.s = [] := by
  unfold may at h; simp [k] at h; exact h
theorem may_num {v : Val} (h : may v = true) (k : v.k = 1) : v.s = [] := by
  unfold may at h; simp [k] at h; exact h
theorem may_txt {v : Val} (h : may v = true) (k : v.k = 2) : v.n = 0 := by
  unfold may at h; simp [k] at h; exact h.1
theorem may_bool2 {v : Val} (h : may v = true) (k : v.k = 3) : v.s = [] := by
  unfold may at h; simp [k] at h; exact h.1
theorem may_cases {v : Val} (h : may v = true) : v = ⟨0, 0, []⟩ ∨ v = ⟨3, 0, []⟩ ∨ v = ⟨3, 1, []⟩ ∨ (∃ n, v = ⟨1, n, []⟩) ∨ (∃ s, v = ⟨2, 0, s⟩ ∧ s.length ≤ 64) := by
  by_cases k0 : v.k = 0
  · have := may_null h k0
    left; cases v; simp_all
  · by_cases k3 : v.k = 3
    · have h1 := may_bool2 h k3
      rcases may_bool h k3 with h2 | h2
      · right; left; cases v; simp_all
      · right; right; left; cases v; simp_all
    · by_cases k1 : v.k = 1
      · have h1 := may_num h k1
        right; right; right; left
        exact ⟨v.n, by cases v; simp_all⟩
      · have k2 := may_kind h k0 k3 k1
        have h1 := may_txt h k2
        have h2 := may_text h k2
        right; right; right; right
        exact ⟨v.s, by cases v; simp_all, h2⟩
theorem one_0 : one ⟨0, 0, []⟩ = [1] := rfl
theorem one_30 : one ⟨3, 0, []⟩ = [2] := rfl
theorem one_31 : one ⟨3, 1, []⟩ = [3] := rfl
theorem one_1 (n : Int) : one ⟨1, n, []⟩ = 4 :: beN 8 (up n) := rfl
theorem one_2 (s : List UInt8) : one ⟨2, 0, s⟩ = 5 :: (esc s ++ [0, 1]) := rfl
theorem up_mod {n : Int} (h1 : -9223372036854775808 ≤ n) (h2 : n ≤ 9223372036854775807) : up n % 256 ^ 8 = up n := Nat.mod_eq_of_lt (Nat.lt_of_lt_of_le (up_lt h2) (by decide))
theorem cmpB_one {v u : Val} (hv : may v = true) (hu : may u = true) (ov : v.ok) (ou : u.ok) (x y : List UInt8) : cmpB (one v ++ x) (one u ++ y) = if cmpV v u = 0 then cmpB x y else cmpV v u := by
  rcases may_cases hv with rfl | rfl | rfl | ⟨n, rfl⟩ | ⟨s, rfl, _⟩ <;> rcases may_cases hu with rfl | rfl | rfl | ⟨m, rfl⟩ | ⟨t, rfl, _⟩ <;>
    simp only [one_0, one_30, one_31, one_1, one_2] <;> try (simp [cmpB, cmpV, place]; done)
  · have e := cmpB_be x y 8 (up n) (up m)
    rw [up_mod ov.2.1 ov.2.2, up_mod ou.2.1 ou.2.2] at e
    have o1 : -9223372036854775808 ≤ n ∧ n ≤ 9223372036854775807 := ov.2
    have o2 : -9223372036854775808 ≤ m ∧ m ≤ 9223372036854775807 := ou.2
    simp only [List.cons_append, cmpB, e]
    simp [cmpV, place]
    rcases Int.lt_trichotomy n m with h | h | h
    · have h1 : up n < up m := by unfold up; omega
      simp [h, h1]
    · subst h
      simp
    · have h1 : ¬ up n < up m := by unfold up; omega
      have h2 : up m < up n := by unfold up; omega
      have : ¬ n < m := by omega
      simp [h, h1, h2, this]
  · have e := cmpB_esc x y s t
    simp only [List.cons_append, List.append_assoc, List.nil_append, cmpB, e]
    simp [cmpV, place]
theorem cmpV_zero {v u : Val} (hv : may v = true) (hu : may u = true) : cmpV v u = 0 ↔ v = u := by
  rcases may_cases hv with rfl | rfl | rfl | ⟨n, rfl⟩ | ⟨s, rfl, _⟩ <;> rcases may_cases hu with rfl | rfl | rfl | ⟨m, rfl⟩ | ⟨t, rfl, _⟩ <;> try (simp [cmpV, place]; done)
  · simp only [cmpV, place]
    rcases Int.lt_trichotomy n m with h | h | h
    · have : n ≠ m := by omega
      simp [h, this]
    · simp [h]
    · have h1 : ¬ n < m := by omega
      have : n ≠ m := by omega
      simp [h, h1, this]
  · simp [cmpV, place, cmpB_zero]

/-! ### Rows -/
def good (l : List Val) : Prop := (∀ v ∈ l, may v = true) ∧ ∀ v ∈ l, v.ok
theorem good.tail {v : Val} {l : List Val} (h : good (v :: l)) : good l := ⟨fun u hu => h.1 u (List.mem_cons_of_mem _ hu), fun u hu => h.2 u (List.mem_cons_of_mem _ hu)⟩
theorem one_cons (v : Val) : ∃ c r, one v = c :: r := by
  cases h : one v with
  | nil => have := one_pos v; rw [h] at this; simp at this
  | cons c r => exact ⟨c, r, rfl⟩
/-- Keys stand in the order of their rows. -/
theorem cmp_enc : ∀ a b : List Val, good a → good b → cmpB (enc a) (enc b) = cmpR a b
  | [], [], _, _ => rfl
  | [], v :: b, _, _ => by
    obtain ⟨c, r, h⟩ := one_cons v
    simp [enc, h, cmpB, cmpR]
  | v :: a, [], _, _ => by
    obtain ⟨c, r, h⟩ := one_cons v
    simp [enc, h, cmpB, cmpR]
  | v :: a, u :: b, ha, hb => by
    simp only [enc, cmpR]
    rw [cmpB_one (ha.1 v (by simp)) (hb.1 u (by simp)) (ha.2 v (by simp)) (hb.2 u (by simp)), cmp_enc a b ha.tail hb.tail]
theorem one_head {v : Val} (h : may v = true) : ∃ c r, one v = c :: r ∧ c.toNat < 255 := by
  rcases may_cases h with rfl | rfl | rfl | ⟨n, rfl⟩ | ⟨s, rfl, _⟩
  · exact ⟨1, [], rfl, by decide⟩
  · exact ⟨2, [], rfl, by decide⟩
  · exact ⟨3, [], rfl, by decide⟩
  · exact ⟨4, _, rfl, by decide⟩
  · exact ⟨5, _, rfl, by decide⟩
def begR (r p : List Val) : Bool := decide (p.length ≤ r.length) && decide (r.take p.length = p)
/-- Behind all that a row begins. -/
theorem cmp_beyond : ∀ r p : List Val, good r → good p → decide (cmpB (enc r) (enc p ++ [255]) < 0) = (decide (cmpR r p < 0) || begR r p)
  | [], [], _, _ => rfl
  | v :: r, [], hr, _ => by
    obtain ⟨c, x, h, hc⟩ := one_head (hr.1 v (by simp))
    have : (255 : UInt8).toNat = 255 := rfl
    simp [enc, h, cmpB, cmpR, begR, hc]
  | [], u :: p, _, _ => by
    obtain ⟨c, x, h⟩ := one_cons u
    simp [enc, h, cmpB, cmpR]
  | v :: r, u :: p, hr, hp => by
    have ih := cmp_beyond r p hr.tail hp.tail
    have hv := hr.1 v (by simp)
    have hu := hp.1 u (by simp)
    have hcr : cmpR (v :: r) (u :: p) = if cmpV v u = 0 then cmpR r p else cmpV v u := rfl
    simp only [enc, List.append_assoc]
    rw [cmpB_one hv hu (hr.2 v (by simp)) (hp.2 u (by simp)), hcr]
    by_cases h : cmpV v u = 0
    · rw [if_pos h, if_pos h, ih]
      rw [cmpV_zero hv hu] at h
      subst h
      simp [begR]
    · rw [if_neg h, if_neg h]
      have h1 : v ≠ u := fun e => h ((cmpV_zero hv hu).2 e)
      simp [begR, h1]
theorem cmpR_neg : ∀ a b : List Val, good a → good b → cmpR b a = - cmpR a b := fun a b ha hb => by
  rw [← cmp_enc a b ha hb, ← cmp_enc b a hb ha, cmpB_neg]

/-! ### There and back -/
theorem decT_esc (r : List UInt8) : ∀ (s acc : List UInt8), decT acc (esc s ++ 0 :: 1 :: r) = some (acc ++ s, r)
  | [], acc => by simp [esc, decT]
  | c :: s, acc => by
    by_cases hc : c = 0
    · subst hc
      simp only [esc, if_true, List.cons_append]
      unfold decT
      simp only [if_true, show ¬ (255 : UInt8) = 1 by decide, if_false]
      rw [decT_esc r s]
      simp
    · simp only [esc, hc, if_false, List.cons_append]
      obtain ⟨e, x, h⟩ : ∃ e x, esc s ++ 0 :: 1 :: r = e :: x := by cases h : esc s <;> simp
      rw [h]
      unfold decT
      rw [if_neg hc, ← h, decT_esc r s]
      simp
theorem decT_back : ∀ (s acc t r : List UInt8), decT acc s = some (t, r) → ∃ t', t = acc ++ t' ∧ s = esc t' ++ 0 :: 1 :: r
  | [], acc, t, r, h => by simp [decT] at h
  | [c], acc, t, r, h => by
    unfold decT at h
    split at h
    · cases h
    · simp [decT] at h
  | c :: e :: s, acc, t, r, h => by
    unfold decT at h
    split at h
    · rename_i hc
      subst hc
      split at h
      · rename_i he
        subst he
        simp only [Option.some.injEq, Prod.mk.injEq] at h
        exact ⟨[], by simp [h.1], by simp [esc, h.2]⟩
      · split at h
        · rename_i he
          subst he
          obtain ⟨t', h1, h2⟩ := decT_back s _ t r h
          exact ⟨0 :: t', by simp [h1], by simp [esc, h2]⟩
        · cases h
    · rename_i hc
      obtain ⟨t', h1, h2⟩ := decT_back (e :: s) _ t r h
      exact ⟨c :: t', by simp [h1], by simp [esc, hc, h2]⟩
theorem unbe_app (s : List UInt8) (c : UInt8) : unbe (s ++ [c]) = unbe s * 256 + c.toNat := by simp [unbe]
theorem foldl_be (k : Nat) : ∀ (u a : Nat), (beN k u).foldl (fun u b => u * 256 + b.toNat) a = a * 256 ^ k + u % 256 ^ k := by
  induction k with
  | zero => intro u a; simp [beN, Nat.mod_one]
  | succ k ih =>
    intro u a
    simp only [beN, List.foldl_cons, ih]
    have e2 : (UInt8.ofNat (u / 256 ^ k)).toNat = u / 256 ^ k % 256 := by simp [UInt8.toNat_ofNat']
    rw [e2, Nat.pow_succ, Nat.mod_mul (x := u) (a := 256 ^ k) (b := 256), Nat.add_mul]
    have : a * 256 * 256 ^ k = a * (256 ^ k * 256) := by rw [Nat.mul_assoc, Nat.mul_comm 256]
    have : u / 256 ^ k % 256 * 256 ^ k = 256 ^ k * (u / 256 ^ k % 256) := Nat.mul_comm _ _
    omega
theorem unbe_be {u : Nat} (h : u < 256 ^ 8) : unbe (beN 8 u) = u := by
  have := foldl_be 8 u 0
  rw [Nat.mod_eq_of_lt h] at this
  simpa [unbe] using this
theorem be_unbe_aux : ∀ (t : List UInt8) (a : Nat), beN t.length (t.foldl (fun u b => u * 256 + b.toNat) a) = t
  | [], a => rfl
  | c :: t, a => by
    simp only [List.foldl_cons, List.length_cons, beN]
    rw [be_unbe_aux t]
    congr 1
    have key : ∀ (t : List UInt8) (a : Nat), t.foldl (fun u b => u * 256 + b.toNat) a / 256 ^ t.length = a := by
      intro t
      induction t with
      | nil => intro a; simp
      | cons b t ih =>
        intro a
        simp only [List.foldl_cons, List.length_cons]
        rw [Nat.pow_succ, ← Nat.div_div_eq_div_mul, ih]
        have := b.toNat_lt
        omega
    rw [key]
    apply UInt8.toNat_inj.1
    have := c.toNat_lt
    simp [UInt8.toNat_ofNat']
theorem be_unbe (t : List UInt8) (h : t.length = 8) : beN 8 (unbe t) = t := by
  have := be_unbe_aux t 0
  rw [h] at this
  exact this
theorem dec1_one {v : Val} (h : may v = true) (o : v.ok) (r : List UInt8) : dec1 (one v ++ r) = some (v, r) := by
  rcases may_cases h with rfl | rfl | rfl | ⟨n, rfl⟩ | ⟨s, rfl, hs⟩
  · simp [one_0, dec1, dec0]
  · simp [one_30, dec1, dec0]
  · simp [one_31, dec1, dec0]
  · have hl := beN_length 8 (up n)
    have h1 : (beN 8 (up n) ++ r).take 8 = beN 8 (up n) := by rw [List.take_append_of_le_length (by omega), List.take_of_length_le (by omega)]
    have h2 : (beN 8 (up n) ++ r).drop 8 = r := by rw [List.drop_append_of_le_length (by omega), List.drop_of_length_le (by omega)]; rfl
    have h3 : unbe (beN 8 (up n)) = up n := unbe_be (Nat.lt_of_lt_of_le (up_lt o.2.2) (by decide))
    have h4 : (up n : Int) - 9223372036854775808 = n := by have := o.2.1; simp only at this; unfold up; omega
    have h5 : ¬ (beN 8 (up n) ++ r).length < 8 := by simp [hl]
    simp only [one_1, List.cons_append, dec1, dec0, h5, h1, h2, h3, h4]
    simp
  · have h1 := decT_esc r s []
    simp only [one_2, List.cons_append, List.append_assoc, List.nil_append, dec1, dec0, h1]
    simp [hs]
theorem dec1_back {s : List UInt8} {v : Val} {r : List UInt8} (h : dec1 s = some (v, r)) : s = one v ++ r ∧ may v = true ∧ v.ok := by
  unfold dec1 at h
  split at h
  · rename_i v' r' h0
    split at h
    · rename_i h64
      simp only [Option.some.injEq, Prod.mk.injEq] at h
      obtain ⟨rfl, rfl⟩ := h
      cases s with
      | nil => simp [dec0] at h0
      | cons c s =>
        simp only [dec0] at h0
        split at h0
        · rename_i hc
          simp only [Option.some.injEq, Prod.mk.injEq] at h0
          obtain ⟨rfl, rfl⟩ := h0
          subst hc
          exact ⟨rfl, rfl, by simp [Val.ok]⟩
        · split at h0
          · rename_i hc
            simp only [Option.some.injEq, Prod.mk.injEq] at h0
            obtain ⟨rfl, rfl⟩ := h0
            rcases hc with rfl | rfl
            · exact ⟨rfl, rfl, by simp [Val.ok]⟩
            · exact ⟨rfl, rfl, by simp [Val.ok]⟩
          · split at h0
            · rename_i hc
              subst hc
              split at h0
              · cases h0
              · rename_i h8
                simp only [Option.some.injEq, Prod.mk.injEq] at h0
                obtain ⟨rfl, rfl⟩ := h0
                have hl : (s.take 8).length = 8 := by simp; omega
                have h64' := unbe_64 (s.take 8) (by omega)
                have h1 : up ((unbe (s.take 8) : Int) - 9223372036854775808) = unbe (s.take 8) := by unfold up; omega
                refine ⟨?_, by simp [may], ?_⟩
                · rw [one_1, h1, be_unbe _ hl]
                  simp
                · simp [Val.ok]; omega
            · split at h0
              · rename_i hc
                subst hc
                split at h0
                · rename_i t r'' ht
                  simp only [Option.some.injEq, Prod.mk.injEq] at h0
                  obtain ⟨rfl, rfl⟩ := h0
                  obtain ⟨t', h1, h2⟩ := decT_back _ _ _ _ ht
                  simp at h1
                  subst h1
                  refine ⟨by rw [one_2, h2]; simp, ?_, by simp [Val.ok]⟩
                  simp [may]; exact h64
                · cases h0
              · cases h0
    · cases h
  · cases h
theorem decN_enc : ∀ (l acc : List Val) (f : Nat), good l → (enc l).length ≤ f → acc.length + l.length ≤ 16 → decN 16 f acc (enc l) = some (acc ++ l)
  | [], acc, f, _, _, _ => by cases f <;> simp [enc, decN]
  | v :: l, acc, f, hg, hf, hl => by
    obtain ⟨c, x, h⟩ := one_cons v
    have h1 := dec1_one (hg.1 v (by simp)) (hg.2 v (by simp)) (enc l)
    have hp := one_pos v
    simp only [enc, List.length_append] at hf
    obtain ⟨f, rfl⟩ : ∃ g, f = g + 1 := ⟨f - 1, by omega⟩
    simp only [enc]
    rw [h] at h1 ⊢
    simp only [List.cons_append] at h1 ⊢
    unfold decN
    rw [h1]
    simp only [List.length_cons] at hl
    simp only
    rw [if_neg (by omega), decN_enc l (acc ++ [v]) f hg.tail (by omega) (by simp; omega)]
    simp
theorem decN_back : ∀ (f : Nat) (acc : List Val) (s : List UInt8) (l : List Val), good acc → decN 16 f acc s = some l → enc l = enc acc ++ s ∧ good l ∧ (acc.length ≤ 16 → l.length ≤ 16)
  | f, acc, [], l, ha, h => by
    have : some acc = some l := by rw [← h]; cases f <;> rfl
    cases this
    exact ⟨by simp, ha, fun h => h⟩
  | 0, acc, c :: s, l, ha, h => by simp [decN] at h
  | f + 1, acc, c :: s, l, ha, h => by
    unfold decN at h
    split at h
    · rename_i v r hd
      split at h
      · cases h
      · rename_i h16
        obtain ⟨h1, h2, h3⟩ := dec1_back hd
        have hg : good (acc ++ [v]) := ⟨fun u hu => by rcases List.mem_append.1 hu with hu | hu; exact ha.1 u hu; obtain rfl := List.mem_singleton.1 hu; exact h2, fun u hu => by rcases List.mem_append.1 hu with hu | hu; exact ha.2 u hu; obtain rfl := List.mem_singleton.1 hu; exact h3⟩
        obtain ⟨h4, h5, h6⟩ := decN_back f _ _ _ hg h
        refine ⟨?_, h5, fun h => h6 (by simp; omega)⟩
        rw [h4, enc_append, h1]
        simp [enc]
    · cases h
theorem encR_ok {l : List Val} (h : (encR l).2 = 0) : (encR l).1 = enc l ∧ (∀ v ∈ l, may v = true) ∧ l.length ≤ 16 ∧ (enc l).length ≤ 140 := by
  unfold encR at h ⊢
  by_cases h1 : 16 < l.length
  · rw [if_pos h1] at h; cases h
  · rw [if_neg h1] at h ⊢
    by_cases h2 : l.all may = true
    · rw [if_pos h2] at h ⊢
      by_cases h3 : 140 < (enc l).length
      · rw [if_pos h3] at h; cases h
      · rw [if_neg h3]
        exact ⟨rfl, fun v hv => List.all_eq_true.1 h2 v hv, by omega, by omega⟩
    · rw [if_neg h2] at h; cases h
theorem encR_bad {l : List Val} (h : (encR l).2 ≠ 0) : (encR l).1 = [] := by
  unfold encR at h ⊢
  split
  · rfl
  · split
    · split
      · rfl
      · rename_i h1 h2 h3
        rw [if_neg h1, if_pos h2, if_neg h3] at h
        exact absurd rfl h
    · rfl
theorem decS_enc {l : List Val} (h : (encR l).2 = 0) (ho : ∀ v ∈ l, v.ok) : decS (encR l).1 = some l := by
  obtain ⟨h1, h2, h3, h4⟩ := encR_ok h
  rw [h1, decS, if_neg (by omega), decN_enc l [] _ ⟨h2, ho⟩ (Nat.le_refl _) (by simpa using h3)]
  rfl
theorem decS_back {s : List UInt8} {l : List Val} (h : decS s = some l) : encR l = (s, 0) ∧ good l ∧ l.length ≤ 16 ∧ s.length ≤ 140 := by
  unfold decS at h
  split at h
  · cases h
  · rename_i hs
    obtain ⟨h1, h2, h3⟩ := decN_back _ _ _ _ ⟨by simp, by simp⟩ h
    have h4 : enc l = s := by simpa [enc] using h1
    have h5 := h3 (by simp)
    refine ⟨?_, h2, h5, by omega⟩
    rw [encR, if_neg (by omega), if_pos (List.all_eq_true.2 h2.1), if_neg (by rw [h4]; exact hs), h4]
theorem good_text {l : List Val} (h : good l) : ∀ v ∈ l, v.s.length ≤ 140737488355328 := fun v hv => by
  rcases may_cases (h.1 v hv) with rfl | rfl | rfl | ⟨n, rfl⟩ | ⟨s, rfl, hs⟩
  · simp
  · simp
  · simp
  · simp
  · simp only; omega
/-- Of two rows of as many values no key begins the other's. -/
theorem enc_free : ∀ (a b : List Val) (z : List UInt8), good a → good b → a.length = b.length → enc a ++ z = enc b → a = b
  | [], [], _, _, _, _, _ => rfl
  | [], _ :: _, _, _, _, h, _ => by simp at h
  | _ :: _, [], _, _, _, h, _ => by simp at h
  | v :: a, u :: b, z, ha, hb, h, he => by
    have h1 := dec1_one (ha.1 v (by simp)) (ha.2 v (by simp)) (enc a ++ z)
    have h2 := dec1_one (hb.1 u (by simp)) (hb.2 u (by simp)) (enc b)
    simp only [enc, List.append_assoc] at he
    rw [he, h2] at h1
    simp only [Option.some.injEq, Prod.mk.injEq] at h1
    obtain ⟨rfl, h3⟩ := h1
    rw [enc_free a b z ha.tail hb.tail (by simpa using h) h3.symm]
theorem no_begin {a b : List Val} (ha : good a) (hb : good b) (h : a.length = b.length) (hne : enc a ≠ enc b) : (enc a).take (min (enc a).length (enc b).length) ≠ (enc b).take (min (enc a).length (enc b).length) := fun e => by
  rcases Nat.le_total (enc a).length (enc b).length with hl | hl
  · rw [Nat.min_eq_left hl, List.take_length] at e
    have e2 : enc a ++ (enc b).drop (enc a).length = enc b := by
      have := List.take_append_drop (enc a).length (enc b)
      rw [← e] at this
      exact this
    exact hne (by rw [enc_free a b _ ha hb h e2])
  · rw [Nat.min_eq_right hl, List.take_length] at e
    have e2 : enc b ++ (enc a).drop (enc b).length = enc a := by
      have := List.take_append_drop (enc b).length (enc a)
      rw [e] at this
      exact this
    exact hne (by rw [enc_free b a _ hb ha h.symm e2])
/-- The row that a text is the key of, and what 'Decode' says. -/
def dl (s : List UInt8) : List Val := (decS s).getD []
def dcode (s : List UInt8) : Int := match decS s with | some _ => 0 | none => 5
theorem dl_good (s : List UInt8) : good (dl s) ∧ (dl s).length ≤ 16 := by
  unfold dl
  cases h : decS s with
  | none => exact ⟨⟨by simp, by simp⟩, by simp⟩
  | some l => exact ⟨(decS_back h).2.1, (decS_back h).2.2.1⟩
theorem dcode_ok {s : List UInt8} (h : dcode s = 0) : encR (dl s) = (s, 0) := by
  unfold dcode at h
  unfold dl
  cases hd : decS s with
  | none => rw [hd] at h; cases h
  | some l => exact (decS_back hd).1
theorem dec_enc {l : List Val} (h : (encR l).2 = 0) (ho : ∀ v ∈ l, v.ok) : dl (encR l).1 = l ∧ dcode (encR l).1 = 0 := by
  have := decS_enc h ho
  rw [dl, dcode, this]
  exact ⟨rfl, rfl⟩
theorem DecR.new {s : List UInt8} {w : World} {e : Ending} {w' : World} (h : DecR s w e w') : NewRowF (fun v => .tuple #[v, .int .i64 (dcode s)]) w 28 3 (dl s).length (valsV (dl s)) e w' := by
  rcases h with ⟨h1, rfl, h2⟩ | ⟨l, h1, h2⟩
  · rw [dl, dcode, h1]
    exact ⟨none, 0, rfl, ⟨rfl, .inl ⟨rfl, rfl⟩⟩, fun a ha => (by cases ha), h2⟩
  · rw [dl, dcode, h1]
    exact h2
theorem less_or (a b : List UInt8) : (Op.bytesLess a b || decide (a = b)) = !Op.bytesLess b a := by
  have h := cmpB_zero a b
  rw [cmpB_less, cmpB_less, cmpB_neg a b]
  by_cases h1 : a = b
  · rw [h.2 h1]; simp [h1]
  · have : cmpB a b ≠ 0 := fun e => h1 (h.1 e)
    by_cases h2 : cmpB a b < 0
    · have h3 : ¬ 0 < cmpB a b := by omega
      simp [h1, h2, h3]
    · have h3 : 0 < cmpB a b := by omega
      simp [h1, h2, h3]
theorem less_enc {a b : List Val} (ha : good a) (hb : good b) : Op.bytesLess (enc a) (enc b) = decide (cmpR a b < 0) := by rw [cmpB_less, cmp_enc a b ha hb]
theorem less_bey {r p : List Val} (hr : good r) (hp : good p) : Op.bytesLess (enc r) (enc p ++ [255]) = (decide (cmpR r p < 0) || begR r p) := by rw [cmpB_less, cmp_beyond r p hr hp]
theorem bey_code (l : List Val) (b : Bool) : (beyR l b).2 = (encR l).2 := by unfold beyR; split <;> rfl
theorem bey_false (l : List Val) : beyR l false = encR l := by simp [beyR]
theorem bey_true {l : List Val} (h : (encR l).2 = 0) : (beyR l true).1 = (encR l).1 ++ [255] := by simp [beyR, h]
theorem bey_bad {l : List Val} (h : (encR l).2 ≠ 0) (b : Bool) : (beyR l b).1 = [] := by simp [beyR, h, encR_bad h]
theorem nine_step (l : List Val) (i : Nat) (h : i < l.length) : (List.replicate i (⟨9, 0, []⟩ : Val) ++ l.drop i).set i ⟨9, 0, []⟩ = List.replicate (i + 1) ⟨9, 0, []⟩ ++ l.drop (i + 1) := by
  rw [List.set_append_right _ _ (by simp), List.length_replicate, Nat.sub_self, List.drop_eq_getElem_cons h, List.set_cons_zero, List.replicate_succ', List.append_assoc]
  rfl
end Go.WK
