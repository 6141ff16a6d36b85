/- Tokens and rows of tokens in memory; the loops of the lexer as plain steps. Plain: no program in sight. -/
import Derived.Test.YtdcdpegomncomaaGreatDoorLex2
import Derived.Test.YtdcdpegomncomaaGreatDoorWk9
import Derived.Lib.Bytealg
import Derived.Laws.Entries
import Derived.WideLaws
namespace Go.WK
open Go.RowKit

def Tok.zero : Tok := ⟨0, [], 0⟩
def Tok.cs (v : Tok) : List Value := [.int .i64 v.k, .string (B v.t), .int .i64 v.a]
abbrev aggT (v : Tok) : Value := .agg v.cs.toArray
def toksV : List Tok → List Value
  | [] => []
  | v :: l => v.cs ++ toksV l
def tokKs : List SK := [.int .i64, .str, .int .i64]

theorem toksV_length (l : List Tok) : (toksV l).length = l.length * 3 := by
  induction l with
  | nil => rfl
  | cons v l ih => simp [toksV, Tok.cs, ih]; omega
theorem toksV_append (l m : List Tok) : toksV (l ++ m) = toksV l ++ toksV m := by
  induction l with
  | nil => rfl
  | cons v l ih => simp [toksV, ih]
theorem toksV_drop (l : List Tok) (i : Nat) : (toksV l).drop (i * 3) = toksV (l.drop i) := by
  induction l generalizing i with
  | nil => simp [toksV]
  | cons v l ih =>
    cases i with
    | zero => simp
    | succ i => rw [show (i + 1) * 3 = 3 + i * 3 by omega, ← List.drop_drop]; simp [toksV, Tok.cs, ih]
theorem toksV_take (l : List Tok) (i : Nat) : (toksV l).take (i * 3) = toksV (l.take i) := by
  induction l generalizing i with
  | nil => simp [toksV]
  | cons v l ih =>
    cases i with
    | zero => simp [toksV]
    | succ i => rw [show (i + 1) * 3 = i * 3 + 1 + 1 + 1 by omega]; simp [toksV, Tok.cs, ih]
theorem toksV_at (l : List Tok) (i : Nat) (h : i < l.length) : ((toksV l).drop (i * 3)).take 3 = (l.getD i Tok.zero).cs := by
  rw [toksV_drop, List.drop_eq_getElem_cons h]
  simp [toksV, Tok.cs, List.getD, h]
theorem toksV_one (l : List Tok) : ∀ u ∈ toksV l, u.oneCell' = true := by
  induction l with
  | nil => simp [toksV]
  | cons v l ih =>
    intro u hu
    rcases List.mem_append.1 hu with h | h
    · simp [Tok.cs] at h
      rcases h with rfl | rfl | rfl <;> rfl
    · exact ih u h
theorem toksV_set (l : List Tok) (i : Nat) (v : Tok) (h : i < l.length) : setL (toksV l) (i * 3) v.cs = toksV (l.set i v) := by
  rw [setL_eq _ _ _ (by rw [toksV_length]; simp [Tok.cs]; omega), List.set_eq_take_append_cons_drop, if_pos h, toksV_append, ← toksV_take]
  have : i * 3 + v.cs.length = (i + 1) * 3 := by simp [Tok.cs]; omega
  rw [this, toksV_drop, List.append_assoc]
  rfl
theorem same_csT (a b : Tok) : sameL a.cs b.cs = decide (a = b) := by
  have h1 : sameL a.cs b.cs = (a.k == b.k && (a.t == b.t && (a.a == b.a && true))) := by simp [Tok.cs, sameL, sameV, B_toList]
  rw [h1]
  by_cases h : a = b
  · subst h; simp
  · rw [decide_eq_false h]
    cases a; cases b
    simp_all
theorem tok_dec (a b : Tok) : decide (a = b) = (decide (a.k = b.k) && (decide (a.t = b.t) && decide (a.a = b.a))) := by
  by_cases h : a = b
  · subst h; simp
  · rw [decide_eq_false h]
    cases a; cases b
    simp_all
theorem le_decT (n m : Nat) : decide ((n : Int) ≤ (m : Int)) = decide (n ≤ m) := decide_eq_decide.2 (by omega)
theorem fits_csT (a : Tok) : fitsL tokKs a.cs = true := by simp [tokKs, Tok.cs, fitsL, SK.fits]

theorem take_snocT (l : List Tok) (k : Nat) (h : k < l.length) : l.take (k + 1) = l.take k ++ [l.getD k Tok.zero] := by
  rw [List.take_succ_eq_append_getElem h]; simp [List.getD, h]
theorem getD_memT (l : List Tok) (k : Nat) (h : k < l.length) : l.getD k Tok.zero ∈ l := by
  simp [List.getD, h]
section ops
variable {m : Bool} {cx : Cx} {fs : Slots} {H : List Chunk} {Q : Post} {ops : Array Oper} {rest : List Oper} {g : Option (Nat × Bool)} {d : Nat} {ty : TypeId} {pos : String} {af : Array Edge}
/-- An element of a row of values. -/
theorem o_loadTk {x : Operand} {t kk : Nat} {A : Option Addr} {l : List Tok} (i : Nat) (ht : aggB cx.P t = some true) (hz : szB cx.P t = some 3) (hok : okS cx.n ops fs d g = true) (hx : ev fs x = some (ptrAt A kk)) (hr : RdS cx H A (toksV l)) (hk : kk = i * 3) (hi : i < l.length)
    (k : TriX m cx ops ((d, aggT (l.getD i Tok.zero)) :: fs) H rest Q) : TriX m cx ops fs H (⟨some d, .load t x, ty, pos, af, g⟩ :: rest) Q :=
  o_loadRA ht hz hok hx hr (by rw [hk]; exact toksV_at l i hi) rfl (by decide) k
theorem o_eqlTk {x y : Operand} {t yt : TypeId} {a b : Tok} (hf : flatB cx.P t = some tokKs) (hok : okS cx.n ops fs d g = true) (hx : ev fs x = some (aggT a)) (hy : ev fs y = some (aggT b)) (k : TriX m cx ops ((d, .bool (decide (a = b))) :: fs) H rest Q) :
    TriX m cx ops fs H (⟨some d, .binOp .eql t x y yt, ty, pos, af, g⟩ :: rest) Q := o_eqlA hf hok hx hy (fits_csT a) (fits_csT b) (by rw [same_csT]; exact k)
theorem o_neqTk {x y : Operand} {t yt : TypeId} {a b : Tok} (hf : flatB cx.P t = some tokKs) (hok : okS cx.n ops fs d g = true) (hx : ev fs x = some (aggT a)) (hy : ev fs y = some (aggT b)) (k : TriX m cx ops ((d, .bool (!decide (a = b))) :: fs) H rest Q) :
    TriX m cx ops fs H (⟨some d, .binOp .neq t x y yt, ty, pos, af, g⟩ :: rest) Q := o_neqA hf hok hx hy (fits_csT a) (fits_csT b) (by rw [same_csT]; exact k)
theorem o_loadBTk {x : Operand} {t bt b i : Nat} {v : Tok} (ht : aggB cx.P t = some true) (hz : szB cx.P t = some 3) (hn : Nth H i (box b bt v.cs)) (hok : okS cx.n ops fs d g = true) (hx : ev fs x = some (.pointer (some ⟨b, 0, none⟩)))
    (k : TriX m cx ops ((d, aggT v) :: fs) H rest Q) : TriX m cx ops fs H (⟨some d, .load t x, ty, pos, af, g⟩ :: rest) Q := o_loadA ht hz hn hok hx (vs := v.cs) rfl rfl k
theorem o_storeBTk {x y : Operand} {t bt b i : Nat} {u v : Tok} (hz : szB cx.P t = some 3) (hn : Nth H i (box b bt u.cs)) (hok : okW ops fs g = true) (hx : ev fs x = some (.pointer (some ⟨b, 0, none⟩))) (hy : ev fs y = some (aggT v))
    (k : TriX false cx ops fs (setH H i (box b bt v.cs)) rest Q) : TriX false cx ops fs H (⟨none, .store t x y, ty, pos, af, g⟩ :: rest) Q := o_store hz hn hok hx hy (vs := v.cs) rfl rfl (by simp [Tok.cs]) rfl k
end ops
/-! ### Steps of loops -/
theorem drop_cons {s : List UInt8} {i : Nat} (h : i < s.length) : s.drop i = s.getD i 0 :: s.drop (i + 1) := by
  rw [List.drop_eq_getElem_cons h]; simp [List.getD, h]
theorem run_step (P : UInt8 → Bool) (s : List UInt8) (i : Nat) (h : i < s.length) : runL P (s.drop i) = if P (s.getD i 0) = true then runL P (s.drop (i + 1)) + 1 else 0 := by
  rw [drop_cons h]; rfl
theorem run_last (P : UInt8 → Bool) (s : List UInt8) (i : Nat) (h : ¬ (i < s.length ∧ P (s.getD i 0) = true)) : runL P (s.drop i) = 0 := by
  rcases Nat.lt_or_ge i s.length with h1 | h1
  · rw [run_step P s i h1, if_neg (fun e => h ⟨h1, e⟩)]
  · rw [List.drop_eq_nil_of_le h1]; rfl
/-! ### Gaps, as the lexer goes -/
theorem gap_bl {s : List UInt8} {i : Nat} (h : i < s.length) (hb : isBl (s.getD i 0) = true) : gapM false (s.drop i) = 1 + gapM false (s.drop (i + 1)) := by
  rw [drop_cons h, gapM, if_pos hb]
theorem head_drop (s : List UInt8) (i : Nat) : (s.drop i).head? = some 45 ↔ i < s.length ∧ s.getD i 0 = 45 := by
  rcases Nat.lt_or_ge i s.length with h | h
  · rw [drop_cons h]; simp [h]
  · rw [List.drop_eq_nil_of_le h]; simp; omega
theorem gap_no {s : List UInt8} {i : Nat} (h : i < s.length) (hb : isBl (s.getD i 0) = false) (h2 : ¬ (s.getD i 0 = 45 ∧ i + 1 < s.length ∧ s.getD (i + 1) 0 = 45)) : gapM false (s.drop i) = 0 := by
  rw [drop_cons h, gapM, if_neg (by rw [hb]; simp), if_neg]
  intro e
  exact h2 ⟨e.1, (head_drop s (i + 1)).1 e.2⟩
theorem gap_cmt {s : List UInt8} {i : Nat} (h : i < s.length) (h2 : s.getD i 0 = 45 ∧ i + 1 < s.length ∧ s.getD (i + 1) 0 = 45) : gapM false (s.drop i) = gapM true (s.drop i) := by
  rw [drop_cons h, h2.1]
  have e1 : ∀ l : List UInt8, gapM false (45 :: l) = if (45 : UInt8) = 45 ∧ l.head? = some 45 then 1 + gapM true l else 0 := fun l => by rw [gapM, if_neg (by decide)]
  have e2 : ∀ l : List UInt8, gapM true (45 :: l) = 1 + gapM true l := fun l => by rw [gapM, if_neg (by decide)]
  rw [e1, e2, if_pos ⟨rfl, (head_drop s (i + 1)).2 h2.2⟩]
theorem cmt_step {s : List UInt8} {i : Nat} (h : i < s.length) (h2 : s.getD i 0 ≠ 10) : gapM true (s.drop i) = 1 + gapM true (s.drop (i + 1)) := by
  rw [drop_cons h, gapM, if_neg h2]
theorem cmt_end {s : List UInt8} {i : Nat} (h : i < s.length) (h2 : s.getD i 0 = 10) : gapM true (s.drop i) = gapM false (s.drop i) := by
  rw [drop_cons h, gapM, if_pos h2, gapM, if_pos (by rw [h2]; decide)]
/-- A comment, by where its line ends. -/
theorem cmt_idx (l : List UInt8) : (Lib.indexByte l 10 = -1 ∧ gapM true l = l.length) ∨ (∃ k : Nat, Lib.indexByte l 10 = (k : Int) ∧ k < l.length ∧ gapM true l = k + gapM false (l.drop k)) := by
  induction l with
  | nil => left; exact ⟨rfl, rfl⟩
  | cons c l ih =>
    by_cases hc : c = 10
    · right
      refine ⟨0, by simp [Lib.indexByte, hc], by simp, ?_⟩
      rw [gapM, if_pos hc, List.drop_zero, gapM, if_pos (by rw [hc]; decide)]; omega
    · rcases ih with ⟨h1, h2⟩ | ⟨k, h1, h2, h3⟩
      · left
        exact ⟨by simp [Lib.indexByte, hc, h1], by rw [gapM, if_neg hc, h2]; simp; omega⟩
      · right
        have hk : ¬ (k : Int) = -1 := by omega
        refine ⟨k + 1, by simp [Lib.indexByte, hc, h1, hk], by simpa using h2, ?_⟩
        rw [gapM, if_neg hc, h3, List.drop_succ_cons]; omega
theorem prefix_dash (s : List UInt8) (i : Nat) : ([45, 45] : List UInt8).isPrefixOf (s.drop i) = (decide (i + 1 < s.length) && (decide (s.getD i 0 = 45) && decide (s.getD (i + 1) 0 = 45))) := by
  rcases Nat.lt_or_ge i s.length with h | h
  · rw [drop_cons h]
    rcases Nat.lt_or_ge (i + 1) s.length with h1 | h1
    · rw [drop_cons h1, decide_eq_true h1, Bool.true_and]
      simp only [List.isPrefixOf, Bool.and_true]
      congr 1
      · by_cases e : s.getD i 0 = 45
        · rw [e]; simp
        · rw [decide_eq_false e]; simp; exact fun e2 => e e2.symm
      · by_cases e : s.getD (i + 1) 0 = 45
        · rw [e]; simp
        · rw [decide_eq_false e]; simp; exact fun e2 => e e2.symm
    · rw [List.drop_eq_nil_of_le h1, decide_eq_false (by omega), Bool.false_and]
      simp [List.isPrefixOf]
  · rw [List.drop_eq_nil_of_le h, decide_eq_false (by omega), Bool.false_and]
    simp [List.isPrefixOf]
theorem idx_pos {s : List UInt8} {i : Nat} (h : i < s.length) (h2 : s.getD i 0 ≠ 10) : Lib.indexByte (s.drop i) 10 ≠ 0 := by
  rw [drop_cons h]
  have h3 := Lib.indexByte_ge (s.drop (i + 1)) 10
  intro e
  simp only [Lib.indexByte] at e
  rw [if_neg (by simpa using h2)] at e
  split at e
  · cases e
  · rename_i h4
    have h4 : ¬ Lib.indexByte (s.drop (i + 1)) 10 = -1 := by simpa using h4
    omega
/-! ### Quoted texts, as the lexer goes -/
theorem quo_ne {c : UInt8} {l : List UInt8} (h : c ≠ 39) : quo (c :: l) = (quo l).map fun r => (c :: r.1, r.2 + 1) := by
  cases l with
  | nil => simp [quo, h]
  | cons d l => simp [quo, h]
theorem quo_end {l : List UInt8} (h : l.head? ≠ some 39) : quo (39 :: l) = some ([], 1) := by
  cases l with
  | nil => simp [quo]
  | cons d l => have : d ≠ 39 := fun e => h (by rw [e]; rfl)
                simp [quo, this]
theorem quo_two (l : List UInt8) : quo (39 :: 39 :: l) = (quo l).map fun r => (39 :: r.1, r.2 + 2) := by simp [quo]
/-- So far 'l' has been read, and i bytes with the first mark. -/
def quoInv (s l : List UInt8) (i : Nat) : Prop := 1 ≤ i ∧ i ≤ s.length ∧ l.length ≤ i ∧ quo (s.drop 1) = (quo (s.drop i)).map fun r => (l ++ r.1, (i - 1) + r.2)
theorem quoInv_zero {s : List UInt8} (h : 1 ≤ s.length) : quoInv s [] 1 := by
  refine ⟨by omega, h, by simp, ?_⟩
  cases quo (s.drop 1) <;> simp
theorem quoInv_one {s l : List UInt8} {i : Nat} (h : quoInv s l i) (hi : i < s.length) (hc : s.getD i 0 ≠ 39) : quoInv s (l ++ [s.getD i 0]) (i + 1) := by
  obtain ⟨h1, h2, h3, h4⟩ := h
  refine ⟨by omega, by omega, by simp; omega, ?_⟩
  rw [h4, drop_cons hi, quo_ne hc, Option.map_map]
  congr 1
  funext r
  simp
  omega
theorem quoInv_two {s l : List UInt8} {i : Nat} (h : quoInv s l i) (hi : i + 1 < s.length) (hc : s.getD i 0 = 39) (hd : s.getD (i + 1) 0 = 39) : quoInv s (l ++ [s.getD (i + 1) 0]) (i + 2) := by
  rw [hd]
  obtain ⟨h1, h2, h3, h4⟩ := h
  refine ⟨by omega, by omega, by simp; omega, ?_⟩
  rw [h4, drop_cons (by omega : i < s.length), drop_cons hi, hc, hd, quo_two, Option.map_map]
  congr 1
  funext r
  simp
  omega
theorem quoInv_none {s l : List UInt8} {i : Nat} (h : quoInv s l i) (hi : i = s.length) : quo (s.drop 1) = none := by
  rw [h.2.2.2, hi, List.drop_length]; rfl
theorem quoInv_some {s l : List UInt8} {i : Nat} (h : quoInv s l i) (hi : i < s.length) (hc : s.getD i 0 = 39) (hd : ¬ (i + 1 < s.length ∧ s.getD (i + 1) 0 = 39)) : quo (s.drop 1) = some (l, i) := by
  obtain ⟨h1, h2, h3, h4⟩ := h
  rw [h4, drop_cons hi, hc, quo_end]
  · simp; omega
  · intro e
    rcases Nat.lt_or_ge (i + 1) s.length with h5 | h5
    · rw [drop_cons h5] at e
      exact hd ⟨h5, by simpa using e⟩
    · rw [List.drop_eq_nil_of_le h5] at e; cases e
def quoR (s : List UInt8) : List UInt8 × Nat × Int := match quo (s.drop 1) with
  | none => ([], 0, 180)
  | some r => if 64 < r.1.length then ([], 0, 3) else (r.1, r.2 + 1, 0)
theorem byte_dec (c : UInt8) (n : Nat) (h : n < 256) : decide ((c.toNat : Int) = (n : Int)) = decide (c = UInt8.ofNat n) := decide_eq_decide.2 (by rw [byte_iff h]; omega)
section
variable {cx : Cx} {fn : Func} {R : Ending → World → Prop} {fs : Slots} {H : List Chunk}
theorem end3 {t u r : Tmp} {v v' v'' : Value} (hr : fn.results = #[.tmp t, .tmp u, .tmp r]) (hv : look fs t = some v) (hv' : look fs u = some v') (hv'' : look fs r = some v'') (h : ∀ w, Sat cx H w → R (.returned (.tuple #[v, v', v''])) w) : endQ cx fn R .ret fs H :=
  ⟨_, fun a w ha _ => by
    have e : (results fn a.tmps).run cx.P w = .ok (.tuple #[a.tmps.getD t undef, a.tmps.getD u undef, a.tmps.getD r undef]) w := by simp [results, hr]
    rw [e, ha.get hv, ha.get hv', ha.get hv''], h⟩
theorem results_cell3 {P : Program} {t : TypeId} {x u r : Tmp} {a : Addr} {vs : List Value} {tmps : Array Value} {w : World} (hr : fn.results = #[.cell x t, .tmp u, .tmp r]) (hx : tmps.getD x undef = .pointer (some a)) (ht : aggB P t = some true) (hz : szB P t = some vs.length) (hc : ∀ j v, vs[j]? = some v → w.cell? (a.add j) = some v) :
    (results fn tmps).run P w = .ok (.tuple #[.agg vs.toArray, tmps.getD u undef, tmps.getD r undef]) w := by
  have hx' : tmps[x]?.getD undef = .pointer (some a) := by simpa using hx
  simp [results, hr, hx', asAddr, loadVar, run_isAggB ht, run_sizeB hz, run_loadCells_list w a vs hc]
theorem endC3 {t : TypeId} {x u r : Tmp} {b bt i z : Nat} {cs : List Value} {v v' : Value} (hr : fn.results = #[.cell x t, .tmp u, .tmp r]) (ht : aggB cx.P t = some true) (hz : szB cx.P t = some z) (hn : Nth H i (box b bt cs)) (hx : look fs x = some (.pointer (some ⟨b, 0, none⟩))) (hl : cs.length = z) (hv : look fs u = some v) (hv' : look fs r = some v')
    (h : ∀ w, Sat cx H w → R (.returned (.tuple #[.agg cs.toArray, v, v'])) w) : endQ cx fn R .ret fs H :=
  ⟨_, fun a w ha hw => by
    rw [results_cell3 (vs := cs) hr (ha.get hx) ht (by rw [hz, hl]) (cells_box (hw.holds _ hn.mem) (z := cs.length) (by simp)), ha.get hv, ha.get hv'], h⟩
theorem results_tcell {P : Program} {t : TypeId} {x u : Tmp} {a : Addr} {vs : List Value} {tmps : Array Value} {w : World} (hr : fn.results = #[.tmp u, .cell x t]) (hx : tmps.getD x undef = .pointer (some a)) (ht : aggB P t = some true) (hz : szB P t = some vs.length) (hc : ∀ j v, vs[j]? = some v → w.cell? (a.add j) = some v) :
    (results fn tmps).run P w = .ok (.tuple #[tmps.getD u undef, .agg vs.toArray]) w := by
  have hx' : tmps[x]?.getD undef = .pointer (some a) := by simpa using hx
  simp [results, hr, hx', asAddr, loadVar, run_isAggB ht, run_sizeB hz, run_loadCells_list w a vs hc]
theorem endTC {t : TypeId} {x u : Tmp} {b bt i z : Nat} {cs : List Value} {v : Value} (hr : fn.results = #[.tmp u, .cell x t]) (ht : aggB cx.P t = some true) (hz : szB cx.P t = some z) (hn : Nth H i (box b bt cs)) (hx : look fs x = some (.pointer (some ⟨b, 0, none⟩))) (hl : cs.length = z) (hv : look fs u = some v)
    (h : ∀ w, Sat cx H w → R (.returned (.tuple #[v, .agg cs.toArray])) w) : endQ cx fn R .ret fs H :=
  ⟨_, fun a w ha hw => by
    rw [results_tcell (vs := cs) hr (ha.get hx) ht (by rw [hz, hl]) (cells_box (hw.holds _ hn.mem) (z := cs.length) (by simp)), ha.get hv], h⟩
end
/-! ### Errors -/
def ErrIs (b : Bool) (v : Value) : Prop := (b = true ∧ v = .nilIface) ∨ (b = false ∧ ∃ t u, v = .iface t u)
def okR : Res → Bool
  | .ok _ => true
  | .error _ => false
def tks : Res → List Tok
  | .ok ts => ts
  | .error _ => []
/-- The error that the lexer hands back: nil, or a fault. -/
def errR (tF : Nat) : Res → Value
  | .ok _ => .nilIface
  | .error e => .iface tF (.agg #[.int .i64 e.1, .int .i64 e.2])
theorem errIs (tF : Nat) (r : Res) : ErrIs (okR r) (errR tF r) := by
  cases r with
  | ok ts => exact .inl ⟨rfl, rfl⟩
  | error e => exact .inr ⟨rfl, _, _, rfl⟩
section ops
variable {m : Bool} {cx : Cx} {fs : Slots} {H : List Chunk} {Q : Post} {ops : Array Oper} {rest : List Oper} {g : Option (Nat × Bool)} {d : Nat} {ty : TypeId} {pos : String} {af : Array Edge}
theorem o_neqErr {x : Operand} {t yt : TypeId} {v : Value} {b : Bool} (ht : cx.P.underlying t = some (.interface (cx.P.methodsAt t))) (hb : ErrIs b v) (hok : okS cx.n ops fs d g = true) (hx : ev fs x = some v) (k : TriX m cx ops ((d, .bool (!b)) :: fs) H rest Q) :
    TriX m cx ops fs H (⟨some d, .binOp .neq t x (.const .nilIface) yt, ty, pos, af, g⟩ :: rest) Q := by
  rcases hb with ⟨rfl, rfl⟩ | ⟨rfl, t', u, rfl⟩
  · exact triL_val _ hok (fun a w ha _ => run_bin (ha.eval hx) rfl (eqGuard_nil_constR _ _ _ _) (run_neq_nil_nil w t ht)) k
  · exact triL_val _ hok (fun a w ha _ => run_bin (ha.eval hx) rfl rfl (run_neq_held_nil w t t' u ht)) k
theorem o_eqlErr {x : Operand} {t yt : TypeId} {v : Value} {b : Bool} (ht : cx.P.underlying t = some (.interface (cx.P.methodsAt t))) (hb : ErrIs b v) (hok : okS cx.n ops fs d g = true) (hx : ev fs x = some v) (k : TriX m cx ops ((d, .bool b) :: fs) H rest Q) :
    TriX m cx ops fs H (⟨some d, .binOp .eql t x (.const .nilIface) yt, ty, pos, af, g⟩ :: rest) Q := by
  rcases hb with ⟨rfl, rfl⟩ | ⟨rfl, t', u, rfl⟩
  · exact triL_val _ hok (fun a w ha _ => run_bin (ha.eval hx) rfl (eqGuard_nil_constR _ _ _ _) (run_eql_nil_nil w t ht)) k
  · exact triL_val _ hok (fun a w ha _ => run_bin (ha.eval hx) rfl rfl (run_eql_held_nil w t t' u ht)) k
end ops
theorem Sat.ne2x {cx : Cx} {c : Chunk} {g g' t t' : Nat} {cs cs' : List Value} {H : List Chunk} {w : World} (h : Sat cx (c :: box g t cs :: box g' t' cs' :: H) w) : g' ≠ g := fun e => by
  have h1 := (List.pairwise_cons.1 h.apart).2
  have h2 := (List.pairwise_cons.1 h1).1 (box g' t' cs') List.mem_cons_self g rfl
  exact h2 e.symm
theorem getD_dropx (s : List UInt8) (i j : Nat) : (s.drop i).getD j 0 = s.getD (i + j) 0 := by simp [List.getD, List.getElem?_drop]
end Go.WK
