/- Values: their order is one; the logic of three truths; the ring of whole numbers; written and read. Plain: no program in sight. -/
import Derived.Test.YtgogkkkacpacgaaDoorValue3
namespace Go.WK
open Go.RowKit Go.Lib

/-! ### The order -/
theorem cmpB_range : ∀ a b : List UInt8, -1 ≤ cmpB a b ∧ cmpB a b ≤ 1
  | [], [] => by simp [cmpB]
  | [], _ :: _ => by simp [cmpB]
  | _ :: _, [] => by simp [cmpB]
  | x :: l, y :: m => by
    have := cmpB_range l m
    unfold cmpB
    split
    · omega
    · split <;> omega
theorem cmpB_trans : ∀ a b c : List UInt8, cmpB a b ≤ 0 → cmpB b c ≤ 0 → cmpB a c ≤ 0 ∧ ((cmpB a b < 0 ∨ cmpB b c < 0) → cmpB a c < 0)
  | [], [], c, _, h2 => ⟨h2, fun h => by
      rcases h with h | h
      · simp [cmpB] at h
      · exact h⟩
  | [], _ :: _, [], _, h2 => by simp [cmpB] at h2
  | [], _ :: _, _ :: _, _, _ => by simp [cmpB]
  | _ :: _, [], _, h1, _ => by simp [cmpB] at h1
  | _ :: _, _ :: _, [], _, h2 => by simp [cmpB] at h2
  | x :: l, y :: m, z :: n, h1, h2 => by
    have ih := cmpB_trans l m n
    unfold cmpB at h1 h2 ⊢
    by_cases a1 : x.toNat < y.toNat
    · rw [if_pos a1] at h1 ⊢
      by_cases a2 : y.toNat < z.toNat
      · rw [if_pos (by omega)]; omega
      · rw [if_neg a2] at h2
        by_cases a3 : z.toNat < y.toNat
        · rw [if_pos a3] at h2; omega
        · rw [if_pos (by omega)]; omega
    · rw [if_neg a1] at h1 ⊢
      by_cases a2 : y.toNat < x.toNat
      · rw [if_pos a2] at h1; omega
      · rw [if_neg a2] at h1 ⊢
        have e : x.toNat = y.toNat := by omega
        rw [e]
        by_cases a3 : y.toNat < z.toNat
        · rw [if_pos a3]; omega
        · rw [if_neg a3] at h2
          by_cases a4 : z.toNat < y.toNat
          · rw [if_pos a4] at h2; omega
          · rw [if_neg a4] at h2
            rw [if_neg a3, if_neg a4, if_neg a3, if_neg a4]
            exact ih h1 h2
theorem cmpV_B {v u : Val} (hv : may v = true) (hu : may u = true) (ov : v.ok) (ou : u.ok) : cmpV v u = cmpB (one v) (one u) := by
  have := cmpB_one hv hu ov ou [] []
  rw [List.append_nil, List.append_nil] at this
  rw [this]
  split
  · rename_i h; rw [h]; rfl
  · rfl
theorem order_neg {a b : Val} (ha : may a = true) (hb : may b = true) (oa : a.ok) (ob : b.ok) : cmpV b a = -cmpV a b := by
  rw [cmpV_B ha hb oa ob, cmpV_B hb ha ob oa, cmpB_neg]
theorem order_range {a b : Val} (ha : may a = true) (hb : may b = true) (oa : a.ok) (ob : b.ok) : -1 ≤ cmpV a b ∧ cmpV a b ≤ 1 := by
  rw [cmpV_B ha hb oa ob]; exact cmpB_range _ _
theorem order_trans {a b c : Val} (ha : may a = true) (hb : may b = true) (hc : may c = true) (oa : a.ok) (ob : b.ok) (oc : c.ok) (h1 : cmpV a b ≤ 0) (h2 : cmpV b c ≤ 0) : cmpV a c ≤ 0 ∧ ((cmpV a b < 0 ∨ cmpV b c < 0) → cmpV a c < 0) := by
  rw [cmpV_B ha hb oa ob] at h1 ⊢
  rw [cmpV_B hb hc ob oc] at h2 ⊢
  rw [cmpV_B ha hc oa oc]
  exact cmpB_trans _ _ _ h1 h2

/-! ### Three truths -/
def isT (v : Val) : Prop := v = Val.zero ∨ v = truth false ∨ v = truth true
theorem isT_of {v : Val} (h : may v = true) (k : v.k = 0 ∨ v.k = 3) : isT v := by
  rcases may_cases h with rfl | rfl | rfl | ⟨n, rfl⟩ | ⟨s, rfl, _⟩
  · exact .inl rfl
  · exact .inr (.inl rfl)
  · exact .inr (.inr rfl)
  · simp at k
  · simp at k
theorem allE2 {k : Int} {a b : Val} (h : allE k [a, b] = 0) : may a = true ∧ may b = true ∧ (a.k = 0 ∨ a.k = k) ∧ (b.k = 0 ∨ b.k = k) := by
  unfold allE at h
  split at h
  · rename_i h1
    split at h
    · rename_i h2
      simp at h1 h2
      exact ⟨h1.1, h1.2, h2.1, h2.2⟩
    · cases h
  · cases h
theorem allE1 {k : Int} {a : Val} (h : allE k [a] = 0) : may a = true ∧ (a.k = 0 ∨ a.k = k) := by
  unfold allE at h
  split at h
  · rename_i h1
    split at h
    · rename_i h2
      simp at h1 h2
      exact ⟨h1, h2⟩
    · cases h
  · cases h
theorem allE_T {a b : Val} (h : allE 3 [a, b] = 0) : isT a ∧ isT b := by
  obtain ⟨h1, h2, h3, h4⟩ := allE2 h
  exact ⟨isT_of h1 h3, isT_of h2 h4⟩
theorem allE_T1 {a : Val} (h : allE 3 [a] = 0) : isT a := by
  obtain ⟨h1, h3⟩ := allE1 h
  exact isT_of h1 h3
theorem allE_comm (k : Int) (a b : Val) : allE k [a, b] = allE k [b, a] := by
  unfold allE
  simp only [List.all_cons, List.all_nil, Bool.and_true]
  rw [Bool.and_comm, Bool.and_comm (x := decide (a.k = 0) || decide (a.k = k))]
def partV (v : Val) : Int := if v.k = 0 then 1 else 2 * v.n
def wholeV (n : Int) : Val := if n = 1 then Val.zero else truth (decide (n = 2))
theorem and_part {a b : Val} (h : allE 3 [a, b] = 0) : wholeV (min (partV a) (partV b)) = (andV a b).1 := by
  obtain ⟨h1, h2⟩ := allE_T h
  rcases h1 with rfl | rfl | rfl <;> rcases h2 with rfl | rfl | rfl <;> decide
theorem or_part {a b : Val} (h : allE 3 [a, b] = 0) : wholeV (max (partV a) (partV b)) = (orV a b).1 := by
  obtain ⟨h1, h2⟩ := allE_T h
  rcases h1 with rfl | rfl | rfl <;> rcases h2 with rfl | rfl | rfl <;> decide
theorem not_part {a : Val} (h : allE 3 [a] = 0) : wholeV (2 - partV a) = (notV a).1 := by
  rcases allE_T1 h with rfl | rfl | rfl <;> decide
theorem allE_self (k : Int) (a : Val) : allE k [a, a] = allE k [a] := by
  unfold allE; simp
theorem and_code (a b : Val) : (andV a b).2 = allE 3 [a, b] := by unfold andV; split <;> simp_all <;> split <;> simp_all <;> split <;> simp_all
theorem or_code (a b : Val) : (orV a b).2 = allE 3 [a, b] := by unfold orV; split <;> simp_all <;> split <;> simp_all <;> split <;> simp_all
theorem not_code (a : Val) : (notV a).2 = allE 3 [a] := by
  unfold notV
  split
  · rfl
  · rename_i h
    by_cases h2 : allE 3 [a] = 0
    · exact h2.symm
    · exact absurd (.inl h2) h
theorem and_comm' (a b : Val) : andV a b = andV b a := by
  by_cases h : allE 3 [a, b] = 0
  · obtain ⟨h1, h2⟩ := allE_T h
    rcases h1 with rfl | rfl | rfl <;> rcases h2 with rfl | rfl | rfl <;> decide
  · unfold andV
    rw [if_neg h, if_neg (by rw [allE_comm]; exact h), allE_comm]
theorem de_morgan {a b : Val} (h : allE 3 [a, b] = 0) : orV (notV a).1 (notV b).1 = ((notV (andV a b).1).1, 0) ∧ (notV (andV a b).1).2 = 0 := by
  obtain ⟨h1, h2⟩ := allE_T h
  rcases h1 with rfl | rfl | rfl <;> rcases h2 with rfl | rfl | rfl <;> decide
theorem and_assoc' {a b c : Val} (h : allE 3 [a, b] = 0) (h' : allE 3 [b, c] = 0) : (andV (andV a b).1 c).1 = (andV a (andV b c).1).1 := by
  obtain ⟨h1, h2⟩ := allE_T h
  obtain ⟨_, h3⟩ := allE_T h'
  rcases h1 with rfl | rfl | rfl <;> rcases h2 with rfl | rfl | rfl <;> rcases h3 with rfl | rfl | rfl <;> decide
theorem held_code (p q : Int → Bool) (a b : Val) : (held p a b).2 = (held q a b).2 := by
  unfold held
  split
  · split
    · rfl
    · split <;> rfl
  · rfl
theorem not_truth (b : Bool) : notV (truth b) = (truth (!b), 0) := by cases b <;> decide
theorem not_zero : notV Val.zero = (Val.zero, 0) := by decide
theorem not_held {p q : Int → Bool} (hpq : ∀ c, q c = !(p c)) {a b : Val} (h : (held p a b).2 = 0) : notV (held p a b).1 = ((held q a b).1, 0) := by
  unfold held at h ⊢
  split
  · rename_i h1
    rw [if_pos h1] at h
    split
    · exact not_zero
    · rename_i h2
      rw [if_neg h2] at h
      split
      · rw [not_truth, hpq]
      · rename_i h3; rw [if_neg h3] at h; cases h
  · rename_i h1; rw [if_neg h1] at h; cases h
theorem held_congr {p q : Int → Bool} (h : ∀ c, p c = q c) (a b : Val) : held p a b = held q a b := by
  have : p = q := funext h
  rw [this]

/-! ### Whole numbers -/
def numV (n : Int) : Val := ⟨1, n, []⟩
theorem allE_num (x y : Int) : allE 1 [numV x, numV y] = 0 := by
  unfold allE; simp [numV, may]
theorem reck_num (f : Int → Int → Int × Bool) (x y : Int) : reck f (numV x) (numV y) = if (f x y).2 = true then (numV (f x y).1, 0) else (Val.zero, 31) := by
  unfold reck
  rw [if_neg (by rw [allE_num]; simp [numV])]
  rfl
theorem reckZ_num (f : Int → Int → Int × Bool) (x y : Int) : reckZ f (numV x) (numV y) = if y = 0 then (Val.zero, 32) else reck f (numV x) (numV y) := by
  unfold reckZ
  by_cases h : y = 0
  · rw [if_pos h, if_pos ⟨allE_num x y, by simp [numV], by simp [numV], by simpa [numV] using h⟩]
  · rw [if_neg h, if_neg (by rintro ⟨_, _, _, h'⟩; exact h h')]
theorem add_comm' (a b : Val) : reck addF a b = reck addF b a := by
  have e : addF a.n b.n = addF b.n a.n := by unfold addF; rw [Int.add_comm]
  have hc : (allE 1 [b, a] ≠ 0 ∨ a.k = 0 ∨ b.k = 0) ↔ (allE 1 [b, a] ≠ 0 ∨ b.k = 0 ∨ a.k = 0) := by constructor <;> (rintro (h | h | h) <;> simp [h])
  unfold reck
  rw [allE_comm, e]
  by_cases h : allE 1 [b, a] ≠ 0 ∨ a.k = 0 ∨ b.k = 0
  · rw [if_pos h, if_pos (hc.1 h)]
  · rw [if_neg h]
    exact (if_neg (fun h' => h (hc.2 h'))).symm
theorem mul_comm' (a b : Val) : reck mulF a b = reck mulF b a := by
  have e : mulF a.n b.n = mulF b.n a.n := by unfold mulF; rw [Int.mul_comm]
  have hc : (allE 1 [b, a] ≠ 0 ∨ a.k = 0 ∨ b.k = 0) ↔ (allE 1 [b, a] ≠ 0 ∨ b.k = 0 ∨ a.k = 0) := by constructor <;> (rintro (h | h | h) <;> simp [h])
  unfold reck
  rw [allE_comm, e]
  by_cases h : allE 1 [b, a] ≠ 0 ∨ a.k = 0 ∨ b.k = 0
  · rw [if_pos h, if_pos (hc.1 h)]
  · rw [if_neg h]
    exact (if_neg (fun h' => h (hc.2 h'))).symm
theorem reck_ok {f : Int → Int → Int} {x y : Int} (h : (reck (fun a b => ex (f a b)) (numV x) (numV y)).2 = 0) : inR (f x y) = true ∧ reck (fun a b => ex (f a b)) (numV x) (numV y) = (numV (f x y), 0) := by
  rw [reck_num] at h ⊢
  split at h
  · rename_i h0
    have h1 : inR (f x y) = true := h0
    refine ⟨h1, ?_⟩
    rw [if_pos h0]
    simp [ex, wrap_of h1]
  · cases h
theorem reck_in {f : Int → Int → Int} {x y : Int} (h : inR (f x y) = true) : reck (fun a b => ex (f a b)) (numV x) (numV y) = (numV (f x y), 0) := by
  rw [reck_num]
  have h' : (ex (f x y)).2 = true := h
  rw [if_pos h']
  simp [ex, wrap_of h]
theorem back_sub {x y : Int} (hx : inR x = true) (h : (reck addF (numV x) (numV y)).2 = 0) : reck subF (reck addF (numV x) (numV y)).1 (numV y) = (numV x, 0) := by
  have h1 : (reck (fun a b => ex (a + b)) (numV x) (numV y)).2 = 0 := h
  obtain ⟨h2, h3⟩ := reck_ok (f := fun a b => a + b) h1
  have h3 : reck addF (numV x) (numV y) = (numV (x + y), 0) := h3
  rw [h3]
  have := reck_in (f := fun a b => a - b) (x := x + y) (y := y) (by simpa using hx)
  rw [show x + y - y = x by omega] at this
  exact this
theorem div_code {x y : Int} : ((reckZ divF (numV x) (numV y)).2 = 32 ↔ y = 0) ∧ ((reckZ modF (numV x) (numV y)).2 = 32 ↔ y = 0) := by
  constructor <;> rw [reckZ_num]
  · by_cases h : y = 0
    · simp [h]
    · rw [if_neg h, reck_num]
      constructor
      · intro e; split at e <;> cases e
      · intro e; exact absurd e h
  · by_cases h : y = 0
    · simp [h]
    · rw [if_neg h, reck_num]
      constructor
      · intro e; split at e <;> cases e
      · intro e; exact absurd e h
theorem div_back {x y : Int} (hx : inR x = true) (h : (reckZ divF (numV x) (numV y)).2 = 0) :
    (reckZ modF (numV x) (numV y)).2 = 0 ∧ (reck mulF (reckZ divF (numV x) (numV y)).1 (numV y)).2 = 0 ∧ reck addF (reck mulF (reckZ divF (numV x) (numV y)).1 (numV y)).1 (reckZ modF (numV x) (numV y)).1 = (numV x, 0) := by
  have y0 : y ≠ 0 := fun e => by
    subst e
    rw [reckZ_num, if_pos rfl] at h
    cases h
  obtain ⟨x1, x2⟩ := inR_iff.1 hx
  rw [reckZ_num, if_neg y0] at h ⊢
  rw [reckZ_num, if_neg y0]
  obtain ⟨q1, q2⟩ := reck_ok (f := fun a b => a.tdiv b) h
  have q2 : reck divF (numV x) (numV y) = (numV (x.tdiv y), 0) := q2
  have r2 : reck modF (numV x) (numV y) = (numV (x.tmod y), 0) := reck_in (f := fun a b => a.tmod b) (tmod_in hx y0)
  have hm := Int.mul_tdiv_add_tmod x y
  have e1 : (x.tdiv y * y).natAbs = x.natAbs / y.natAbs * y.natAbs := by rw [Int.natAbs_mul, natAbs_td]
  have e2 : x.natAbs / y.natAbs * y.natAbs ≤ x.natAbs := Nat.div_mul_le_self _ _
  have hin : inR (x.tdiv y * y) = true := by
    rw [inR_iff]
    by_cases hp : x.tdiv y * y = 9223372036854775808
    · exfalso
      have h3 : x = -9223372036854775808 := by omega
      have h4 := natAbs_tm x y
      rw [Int.mul_comm y] at hm
      have h5 : x.tmod y = -18446744073709551616 := by omega
      have h6 : x.natAbs % y.natAbs ≤ x.natAbs := Nat.mod_le _ _
      omega
    · omega
  have m2 : reck mulF (numV (x.tdiv y)) (numV y) = (numV (x.tdiv y * y), 0) := reck_in (f := fun a b => a * b) hin
  rw [q2, r2]
  show (0 : Int) = 0 ∧ (reck mulF (numV (x.tdiv y)) (numV y)).2 = 0 ∧ reck addF (reck mulF (numV (x.tdiv y)) (numV y)).1 (numV (x.tmod y)) = (numV x, 0)
  rw [m2]
  refine ⟨rfl, rfl, ?_⟩
  have hs : x.tdiv y * y + x.tmod y = x := by rw [Int.mul_comm]; exact hm
  have := reck_in (f := fun a b => a + b) (x := x.tdiv y * y) (y := x.tmod y) (by rw [hs]; exact hx)
  rw [hs] at this
  exact this
theorem ring_law {x y z : Int} (e : (reck addF (numV x) (numV y)).2 = 0) (k : (reck mulF (numV x) (numV z)).2 = 0) (l : (reck mulF (numV y) (numV z)).2 = 0) (m : (reck mulF (reck addF (numV x) (numV y)).1 (numV z)).2 = 0) :
    reck addF (reck mulF (numV x) (numV z)).1 (reck mulF (numV y) (numV z)).1 = ((reck mulF (reck addF (numV x) (numV y)).1 (numV z)).1, 0) := by
  obtain ⟨_, e2⟩ := reck_ok (f := fun a b => a + b) e
  obtain ⟨_, k2⟩ := reck_ok (f := fun a b => a * b) k
  obtain ⟨_, l2⟩ := reck_ok (f := fun a b => a * b) l
  have e2 : reck addF (numV x) (numV y) = (numV (x + y), 0) := e2
  have k2 : reck mulF (numV x) (numV z) = (numV (x * z), 0) := k2
  have l2 : reck mulF (numV y) (numV z) = (numV (y * z), 0) := l2
  rw [e2] at m ⊢
  obtain ⟨m1, m2⟩ := reck_ok (f := fun a b => a * b) m
  have m2 : reck mulF (numV (x + y)) (numV z) = (numV ((x + y) * z), 0) := m2
  rw [k2, l2]
  show reck addF (numV (x * z)) (numV (y * z)) = ((reck mulF (numV (x + y)) (numV z)).1, 0)
  rw [m2]
  have := reck_in (f := fun a b => a + b) (x := x * z) (y := y * z) (by rw [← Int.add_mul]; exact m1)
  rw [← Int.add_mul] at this
  exact this

/-! ### Written and read -/
theorem pr_code (v : Val) : (prV v).2 = 0 ↔ may v = true := by
  unfold prV
  by_cases h : may v = true
  · simp [h]
  · simp [h]
theorem may_truth (b : Bool) : may (truth b) = true := by cases b <;> decide
theorem pr_truth (b : Bool) : prV (truth b) = (if b then [116, 114, 117, 101] else [102, 97, 108, 115, 101], 0) := by cases b <;> decide
theorem rd_pr {v : Val} (h : may v = true) (o : v.ok) : rdV (prV v).1 = (v, 0) := by
  rcases may_cases h with rfl | rfl | rfl | ⟨n, rfl⟩ | ⟨s, rfl, hl⟩
  · decide
  · decide
  · decide
  · rw [pr_num]
    have hi : inR n = true := inR_iff.2 o.2
    have hn := numR_itoa hi
    unfold rdV
    rw [if_neg, if_neg, hn]
    · rintro (e | e)
      · have e : itoa n = _ := e
        rw [e] at hn
        exact absurd hn (by simp [numR, magR, decFrom, digitVal])
      · have e : itoa n = _ := e
        rw [e] at hn
        exact absurd hn (by simp [numR, magR, decFrom, digitVal])
    · intro e
      have e : itoa n = _ := e
      rw [e] at hn
      exact absurd hn (by simp [numR, magR, decFrom, digitVal])
  · rw [pr_text, if_pos hl]
    unfold rdV
    rw [if_neg (by simp), if_neg (by simp), numR_quote (by simp)]
    have : txtR (39 :: (dbl s ++ [39])) = some s := by
      unfold txtR
      rw [if_neg]
      · have e : ((39 :: (dbl s ++ [39])).drop 1).take ((39 :: (dbl s ++ [39])).length - 2) = dbl s := by simp
        rw [e, undO_dbl]
      · rintro (h | h | h)
        · simp at h; omega
        · simp at h
        · apply h
          simp [List.getD]
    rw [this]
    simp [hl]
theorem pr_rd {s : List UInt8} (h : (rdV s).2 = 0) : prV (rdV s).1 = (s, 0) := by
  rw [← rdP_eq] at h ⊢
  unfold rdP at h ⊢
  split
  · rename_i e; rw [e]; decide
  · rename_i e1
    rw [if_neg e1] at h
    split
    · rename_i e
      rw [pr_truth]
      rcases e with rfl | rfl <;> decide
    · rename_i e2
      rw [if_neg e2] at h
      cases hc : candP s with
      | none => rw [hc] at h; cases h
      | some v =>
        rw [hc] at h
        simp only at h ⊢
        split
        · rename_i h3
          exact Prod.ext h3.2 h3.1
        · rename_i h3
          rw [if_neg h3] at h
          cases h
end Go.WK
