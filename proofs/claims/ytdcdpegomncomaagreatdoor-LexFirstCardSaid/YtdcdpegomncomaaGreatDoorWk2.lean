/- The walk's own frame, second part: one lemma an operation. Plain lemmas over any program. -/
import Derived.Test.YtdcdpegomncomaaGreatDoorWk1
import Derived.WalkLawsBesides
import Derived.WalkSpells
namespace Go.WK
open Go.RowKit

/-- Is the operation wanted? -/
def wantS (ops : Array Oper) (fs : Slots) : Option (Nat × Bool) → Option Bool
  | none => some true
  | some (j, b) => match (ops[j]?).bind (·.dst) with
    | some d => match look fs d with
      | some (.bool x) => some (x == b)
      | some _ => some false
      | none => none
    | none => some false

def okW (ops : Array Oper) (fs : Slots) (g : Option (Nat × Bool)) : Bool := match wantS ops fs g with | some true => true | _ => false
def okS (n : Nat) (ops : Array Oper) (fs : Slots) (d : Nat) (g : Option (Nat × Bool)) : Bool := match wantS ops fs g with | some true => Nat.blt d n | _ => false

section
variable {cx : Cx} {fs : Slots} {H : List Chunk} {Q : Post} {ops : Array Oper} {rest : List Oper} {g : Option (Nat × Bool)} {d : Nat} {ty : TypeId} {pos : String} {af : Array Edge}

theorem wantS_spec {n ds a} (h : Has n ds fs a) {x : Bool} (hw : wantS ops fs g = some x) (o : Oper) (ho : o.guard = g) : Region.wanted o (yielded ops a.tmps) = x := by
  subst ho
  unfold Region.wanted
  cases hg : o.guard with
  | none => rw [hg] at hw; simp [wantS] at hw; simp [hw]
  | some p =>
    obtain ⟨j, b⟩ := p
    rw [hg] at hw
    unfold wantS at hw
    simp only [yielded]
    cases hd : (ops[j]?).bind (·.dst) with
    | none => simp only [hd] at hw; simp only [Option.bind_none]; cases hw; rfl
    | some e =>
      simp only [hd] at hw
      simp only [Option.bind_some]
      cases hl : look fs e with
      | none => simp only [hl] at hw; cases hw
      | some v =>
        simp only [hl] at hw
        rw [h.at_ e v hl]
        cases v <;> simp at hw <;> simp [hw]

theorem okW_want (h : okW ops fs g = true) : wantS ops fs g = some true := by
  unfold okW at h
  split at h <;> first | assumption | cases h
theorem okS_want {n} (h : okS n ops fs d g = true) : wantS ops fs g = some true := by
  unfold okS at h
  split at h <;> first | assumption | cases h
theorem okS_lt {n} (h : okS n ops fs d g = true) : Nat.blt d n = true := by
  unfold okS at h
  split at h
  · exact h
  · cases h

theorem wpFix_mono {P : Program} {C : World → Prop} {K K' : Act → Prop} (hk : ∀ a, K a → K' a) : ∀ (l : List Oper) (a : Act), wpFix P ops C K l a → wpFix P ops C K' l a
  | [], a, h => hk a h
  | o :: l, a, h => by
    unfold wpFix at h ⊢
    split
    · rename_i hw; rw [if_pos hw] at h; obtain ⟨v, h1, h2⟩ := h; exact ⟨v, h1, wpFix_mono hk l _ h2⟩
    · rename_i hw; rw [if_neg hw] at h; exact wpFix_mono hk l _ h
theorem quietAt_class {P : Program} {C C' : World → Prop} {o : Oper} {a : Act} {w : World} {v : Value} (hc : ∀ w', C w' → C' w') (h : o.quietAt P a C w v) : o.quietAt P a C' w v := by
  unfold Oper.quietAt Oper.quietUpon at h ⊢
  split at h
  · exact h
  · exact h
  · exact ⟨h.1, h.2.mono fun e w'' ⟨h1, h2⟩ => ⟨h1, hc _ h2⟩⟩
  · exact h.elim
theorem wpQuiet_of_fix {P : Program} {C : World → Prop} {K : Act → Prop} (hc : ∀ w w', C w → Chg [] w w' → C w') : ∀ (l : List Oper) (a : Act), wpFix P ops C K l a → wpQuiet P ops C K l a
  | [], a, h => h
  | o :: l, a, h => by
    unfold wpFix at h
    unfold wpQuiet
    split
    · rename_i hw; rw [if_pos hw] at h; obtain ⟨v, h1, h2⟩ := h; exact ⟨v, fun w hw => quietAt_class (fun w' h => hc w w' hw h) (h1 w hw), wpQuiet_of_fix hc l _ h2⟩
    · rename_i hw; rw [if_neg hw] at h; exact wpQuiet_of_fix hc l _ h
theorem tri_region {id : Nat} {l : List Oper} (h : TriX false cx l.toArray fs H l Q) : Tri cx fs H (.region id l.toArray false) Q := fun a w ha hw => wp_region_lit (h a w ha hw)
theorem tri_quiet {id : Nat} {l : List Oper} (hm : cx.P.follows .mixedOrders = true) (hB : Region.lexB .any l.toArray = true) (h : TriX true cx l.toArray fs H l Q) : Tri cx fs H (.region id l.toArray true) Q := fun a w ha hw =>
  wp_region_quiet (C := Sat cx H) hm hB hw.drew (by
    have h1 := h a ha
    refine wpQuiet_of_fix (fun w w' h k => h.ext k) l a (wpFix_mono ?_ l a h1)
    rintro a' ⟨fs', h2, h3⟩ w' hw'
    exact ⟨fs', H, h2, hw', h3⟩)
theorem triL_nil {m : Bool} (h : Q .normal fs H) : TriX m cx ops fs H [] Q := by
  cases m with
  | false => exact fun _ _ ha hw => wpList_nil ⟨fs, H, ha, hw, h⟩
  | true => exact fun _ ha => ⟨fs, ha, h⟩

theorem upon_mono {P : Program} {o : Oper} {a : Act} {next next' : Act → World → Prop} {R R' : Exit → Act → World → Prop} (hn : ∀ a w, next a w → next' a w) (hp : ∀ ch a w, R (.panic ch) a w → R' (.panic ch) a w) (hg : ∀ a w, R .outgrown a w → R' .outgrown a w) (r : Result Next)
    (h : o.upon P a next R r) : o.upon P a next' R' r := by
  unfold Oper.upon at h ⊢
  split at h
  · exact hn _ _ h
  · exact hn _ _ h
  · exact hn _ _ h
  · refine h.mono fun e w' he => ?_
    cases e with
    | returned v => exact hn _ _ he
    | panicked ch => exact hp _ _ _ he
    | outgrown => obtain ⟨a', w'', hl⟩ := he; exact ⟨a', w'', hg _ _ hl⟩
  · exact h.mono fun v w' hv => hn _ _ hv
  · exact hp _ _ _ h
  · exact h.elim
theorem wpList_mono {P : Program} {ops : Array Oper} {R R' : Exit → Act → World → Prop} (hq : ∀ e a w, R e a w → R' e a w) : ∀ l a w, wpList P ops R l a w → wpList P ops R' l a w
  | [], _, _, h => hq _ _ _ h
  | o :: l, a, w, h => by
    unfold wpList at h ⊢
    split
    · rename_i hw
      rw [if_pos hw] at h
      rcases h with h | ⟨h, a', w', hl⟩
      · exact .inl (upon_mono (fun a w => wpList_mono hq l a w) (fun _ => hq _) (hq _) _ h)
      · exact .inr ⟨h, a', w', hq _ _ _ hl⟩
    · rename_i hw
      rw [if_neg hw] at h
      exact wpList_mono hq l _ _ h
theorem TriL.mono {l : List Oper} {Q' : Post} (h : TriL cx ops fs H l Q) (hq : ∀ e fs H, Q e fs H → Q' e fs H) : TriL cx ops fs H l Q' :=
  fun a w ha hw => wpList_mono (fun _ _ _ ⟨fs', H', h1, h2, h3⟩ => ⟨fs', H', h1, h2, hq _ _ _ h3⟩) l a w (h a w ha hw)

theorem TriX.subF {m : Bool} {l : List Oper} {fs' : Slots} (hs : ∀ d v, look fs' d = some v → look fs d = some v) (h : TriX m cx ops fs' H l Q) : TriX m cx ops fs H l Q := by
  cases m with
  | false => exact fun a w ha hw => h a w ⟨ha.ds, ha.size, fun d v hd => ha.at_ d v (hs d v hd)⟩ hw
  | true => exact fun a ha => h a ⟨ha.ds, ha.size, fun d v hd => ha.at_ d v (hs d v hd)⟩
theorem TriX.sub {m : Bool} {l : List Oper} {fs' : Slots} (hs : Sub fs fs') (h : TriX m cx ops fs' H l Q) : TriX m cx ops fs H l Q := TriX.subF hs.get h
theorem TriX.heap {l : List Oper} {H' : List Chunk} (hs : ∀ w, Sat cx H w → Sat cx H' w) (h : TriX false cx ops fs H' l Q) : TriX false cx ops fs H l Q := fun a w ha hw => h a w ha (hs w hw)
theorem TriX.cast {m : Bool} {l : List Oper} {H' : List Chunk} (hs : H = H') (h : TriX m cx ops fs H' l Q) : TriX m cx ops fs H l Q := hs ▸ h
theorem TriX.know {l : List Oper} {p : Prop} (hp : ∀ w, Sat cx H w → p) (h : p → TriX false cx ops fs H l Q) : TriX false cx ops fs H l Q := fun a w ha hw => h (hp w hw) a w ha hw

/-- One operation, carried out: its value, and the state behind it, are named by an index. -/
theorem triL_gen {o : Oper} {J : Type} (val : J → Value) (HH : J → List Chunk) (Pu : J → Prop) (hw : wantS ops fs o.guard = some true) (hd : ∀ e, o.dst = some e → Nat.blt e cx.n = true)
    (hrun : ∀ a w, Has cx.n cx.ds fs a → Sat cx H w → ∃ j w', ((execOp a.eval o).run cx.P w = .ok (.value (val j)) w' ∨ (execOp a.eval o).run cx.P w = .ok .skip w' ∧ val j = undef) ∧ Sat cx (HH j) w' ∧ Pu j)
    (k : ∀ j, Pu j → TriL cx ops (match o.dst with | some e => (e, val j) :: fs | none => fs) (HH j) rest Q) : TriL cx ops fs H (o :: rest) Q := by
  intro a w ha hs
  unfold wpList
  rw [if_pos (wantS_spec ha hw o rfl)]
  left
  obtain ⟨j, w', hr, hs', hp⟩ := hrun a w ha hs
  have hk := k j hp
  have hput : ∀ e, o.dst = some e → Has cx.n cx.ds ((e, val j) :: fs) (a.put o.dst (val j)) := fun e he => by rw [he]; exact ha.put (hd e he) _
  unfold Oper.wp
  have goal : wpList cx.P ops (lift cx Q) rest (a.put o.dst (val j)) w' := by
    cases hdst : o.dst with
    | none => rw [hdst] at hk; exact hk _ _ ha hs'
    | some e => have := hput e hdst; rw [hdst] at hk this; exact hk _ _ this hs'
  rcases hr with hr | ⟨hr, hu⟩
  · rw [hr]; exact goal
  · rw [hr, Oper.upon_skip, ← hu]; exact goal

/-- An operation that yields a value and leaves the world alone. -/
theorem triL_val {m : Bool} {op : Op} (v : Value) (hok : okS cx.n ops fs d g = true)
    (hrun : ∀ a w, Has cx.n cx.ds fs a → Sat cx H w → (execOp a.eval ⟨some d, op, ty, pos, af, g⟩).run cx.P w = .ok (.value v) w)
    (k : TriX m cx ops ((d, v) :: fs) H rest Q) : TriX m cx ops fs H (⟨some d, op, ty, pos, af, g⟩ :: rest) Q := by
  cases m with
  | false =>
    exact triL_gen (J := Unit) (fun _ => v) (fun _ => H) (fun _ => True) (okS_want hok) (fun e he => by cases he; exact okS_lt hok)
      (fun a w ha hw => ⟨(), w, .inl (hrun a w ha hw), hw, trivial⟩) (fun _ _ => k)
  | true =>
    intro a ha
    unfold wpFix
    rw [if_pos (wantS_spec ha (okS_want hok) _ rfl)]
    refine ⟨v, fun w hw => ?_, k _ (ha.put (okS_lt hok) _)⟩
    unfold Oper.quietAt
    rw [hrun a w ha hw]
    exact ⟨rfl, rfl⟩

/-- An operation that is not wanted. -/
theorem triL_skip {m : Bool} {op : Op} (hw : wantS ops fs g = some false) (hd : Nat.blt d cx.n = true) (k : TriX m cx ops ((d, undef) :: fs) H rest Q) : TriX m cx ops fs H (⟨some d, op, ty, pos, af, g⟩ :: rest) Q := by
  cases m with
  | false =>
    intro a w ha hs
    unfold wpList
    rw [if_neg (by rw [wantS_spec ha hw _ rfl]; simp)]
    exact k _ _ (ha.put hd _) hs
  | true =>
    intro a ha
    unfold wpFix
    rw [if_neg (by rw [wantS_spec ha hw _ rfl]; simp)]
    exact k _ (ha.put hd _)
theorem triL_skip0 {m : Bool} {op : Op} (hw : wantS ops fs g = some false) (k : TriX m cx ops fs H rest Q) : TriX m cx ops fs H (⟨none, op, ty, pos, af, g⟩ :: rest) Q := by
  cases m with
  | false =>
    intro a w ha hs
    unfold wpList
    rw [if_neg (by rw [wantS_spec ha hw _ rfl]; simp)]
    exact k _ _ ha hs
  | true =>
    intro a ha
    unfold wpFix
    rw [if_neg (by rw [wantS_spec ha hw _ rfl]; simp)]
    exact k _ ha

variable {m : Bool}
/-! ### Moves -/
theorem o_move {x : Operand} {v : Value} (hok : okS cx.n ops fs d g = true) (hx : ev fs x = some v) (k : TriX m cx ops ((d, v) :: fs) H rest Q) : TriX m cx ops fs H (⟨some d, .move x, ty, pos, af, g⟩ :: rest) Q :=
  triL_val v hok (fun a w ha _ => by simp [execOp, ha.eval hx]) k
theorem o_assign {x : Operand} {v : Value} (hok : okS cx.n ops fs d g = true) (hx : ev fs x = some v) (k : TriX m cx ops ((d, v) :: fs) H rest Q) : TriX m cx ops fs H (⟨some d, .assign x, ty, pos, af, g⟩ :: rest) Q :=
  triL_val v hok (fun a w ha _ => by simp [execOp, ha.eval hx]) k
theorem o_pick {c x y : Operand} {t : Bool} {u v : Value} (hok : okS cx.n ops fs d g = true) (hc : ev fs c = some (.bool t)) (hx : ev fs x = some u) (hy : ev fs y = some v)
    (k : TriX m cx ops ((d, if t then u else v) :: fs) H rest Q) : TriX m cx ops fs H (⟨some d, .pick c x y, ty, pos, af, g⟩ :: rest) Q :=
  triL_val _ hok (fun a w ha _ => by simp [execOp, ha.eval hx, ha.eval hy, ha.eval hc, asBool]) k

/-! ### Numbers -/
theorem run_bin {P : Program} {a : Act} {w : World} {op : BinOp} {t yt : TypeId} {x y : Operand} {u v r : Value} {dd : Option Tmp} (e1 : a.eval x = u) (e2 : a.eval y = v) (hg : eqGuard op t x y u v = pure ())
    (hr : (binOp op t u v).run P w = .ok r w) : (execOp a.eval ⟨dd, .binOp op t x y yt, ty, pos, af, g⟩).run P w = .ok (.value r) w := by
  simp only [execOp, e1, e2, hg]
  simp [hr]
theorem run_un {P : Program} {a : Act} {w : World} {op : UnOp} {t : TypeId} {x : Operand} {u r : Value} {dd : Option Tmp} (e1 : a.eval x = u)
    (hr : (Op.unary op u).run P w = .ok r w) : (execOp a.eval ⟨dd, .unOp op t x, ty, pos, af, g⟩).run P w = .ok (.value r) w := by
  simp only [execOp, e1]
  simp [hr]
section
variable {P : Program} {w : World} {t : TypeId} {k : IntKind} {p q : Int}
theorem bin_add : (binOp .add t (.int k p) (.int k q)).run P w = .ok (.int k (k.wrap (p + q))) w := by simp [binOp, Op.intArith]
theorem bin_sub : (binOp .sub t (.int k p) (.int k q)).run P w = .ok (.int k (k.wrap (p - q))) w := by simp [binOp, Op.intArith]
theorem bin_mul : (binOp .mul t (.int k p) (.int k q)).run P w = .ok (.int k (k.wrap (p * q))) w := by simp [binOp, Op.intArith]
theorem bin_quo (h : q ≠ 0) : (binOp .quo t (.int k p) (.int k q)).run P w = .ok (.int k (k.wrap (p.tdiv q))) w := by simp [binOp, Op.intDiv, h]
theorem bin_rem (h : q ≠ 0) : (binOp .rem t (.int k p) (.int k q)).run P w = .ok (.int k (p.tmod q)) w := by simp [binOp, Op.intDiv, h]
theorem bin_and : (binOp .and t (.int k p) (.int k q)).run P w = .ok (.int k (k.wrap (BitVec.ofInt k.bits p &&& BitVec.ofInt k.bits q).toNat)) w := by simp [binOp, Op.intBits]
theorem bin_or : (binOp .or t (.int k p) (.int k q)).run P w = .ok (.int k (k.wrap (BitVec.ofInt k.bits p ||| BitVec.ofInt k.bits q).toNat)) w := by simp [binOp, Op.intBits]
theorem bin_xor : (binOp .xor t (.int k p) (.int k q)).run P w = .ok (.int k (k.wrap (BitVec.ofInt k.bits p ^^^ BitVec.ofInt k.bits q).toNat)) w := by simp [binOp, Op.intBits]
theorem bin_lss : (binOp .lss t (.int k p) (.int k q)).run P w = .ok (.bool (decide (p < q))) w := by simp [binOp, Op.intCmp]
theorem bin_leq : (binOp .leq t (.int k p) (.int k q)).run P w = .ok (.bool (decide (p ≤ q))) w := by simp [binOp, Op.intCmp]
theorem bin_gtr : (binOp .gtr t (.int k p) (.int k q)).run P w = .ok (.bool (decide (q < p))) w := by simp [binOp, Op.intCmp]
theorem bin_geq : (binOp .geq t (.int k p) (.int k q)).run P w = .ok (.bool (decide (q ≤ p))) w := by simp [binOp, Op.intCmp]
theorem bin_eqlI : (binOp .eql t (.int k p) (.int k q)).run P w = .ok (.bool (decide (p = q))) w := by
  have : (p == q) = decide (p = q) := by by_cases h : p = q <;> simp [h]
  simp [binOp, Op.intCmp, this]
theorem bin_neqI : (binOp .neq t (.int k p) (.int k q)).run P w = .ok (.bool (decide (p ≠ q))) w := by
  have : (p != q) = decide (p ≠ q) := by by_cases h : p = q <;> simp [h]
  simp [binOp, Op.intCmp, this]
theorem bin_shl {kj : IntKind} (h : 0 ≤ q) : (binOp .shl t (.int k p) (.int kj q)).run P w = .ok (.int k (k.wrap (p * 2 ^ min q.toNat k.bits))) w := by
  have : ¬ q < 0 := by omega
  simp [binOp, Op.shift, this]
theorem bin_shr {kj : IntKind} (h : 0 ≤ q) : (binOp .shr t (.int k p) (.int kj q)).run P w = .ok (.int k (p.fdiv (2 ^ min q.toNat k.bits))) w := by
  have : ¬ q < 0 := by omega
  simp [binOp, Op.shift, this]
end
section
variable {x y : Operand} {t yt : TypeId} {ki : IntKind} {p q : Int}
variable (hok : okS cx.n ops fs d g = true) (hx : ev fs x = some (.int ki p)) (hy : ev fs y = some (.int ki q))
include hok hx hy
theorem o_add (k : TriX m cx ops ((d, .int ki (ki.wrap (p + q))) :: fs) H rest Q) : TriX m cx ops fs H (⟨some d, .binOp .add t x y yt, ty, pos, af, g⟩ :: rest) Q :=
  triL_val _ hok (fun a w ha _ => run_bin (ha.eval hx) (ha.eval hy) rfl bin_add) k
theorem o_sub (k : TriX m cx ops ((d, .int ki (ki.wrap (p - q))) :: fs) H rest Q) : TriX m cx ops fs H (⟨some d, .binOp .sub t x y yt, ty, pos, af, g⟩ :: rest) Q :=
  triL_val _ hok (fun a w ha _ => run_bin (ha.eval hx) (ha.eval hy) rfl bin_sub) k
theorem o_mul (k : TriX m cx ops ((d, .int ki (ki.wrap (p * q))) :: fs) H rest Q) : TriX m cx ops fs H (⟨some d, .binOp .mul t x y yt, ty, pos, af, g⟩ :: rest) Q :=
  triL_val _ hok (fun a w ha _ => run_bin (ha.eval hx) (ha.eval hy) rfl bin_mul) k
theorem o_quo (hq : q ≠ 0) (k : TriX m cx ops ((d, .int ki (ki.wrap (p.tdiv q))) :: fs) H rest Q) : TriX m cx ops fs H (⟨some d, .binOp .quo t x y yt, ty, pos, af, g⟩ :: rest) Q :=
  triL_val _ hok (fun a w ha _ => run_bin (ha.eval hx) (ha.eval hy) rfl (bin_quo hq)) k
theorem o_rem (hq : q ≠ 0) (k : TriX m cx ops ((d, .int ki (p.tmod q)) :: fs) H rest Q) : TriX m cx ops fs H (⟨some d, .binOp .rem t x y yt, ty, pos, af, g⟩ :: rest) Q :=
  triL_val _ hok (fun a w ha _ => run_bin (ha.eval hx) (ha.eval hy) rfl (bin_rem hq)) k
theorem o_and (k : TriX m cx ops ((d, .int ki (ki.wrap (BitVec.ofInt ki.bits p &&& BitVec.ofInt ki.bits q).toNat)) :: fs) H rest Q) : TriX m cx ops fs H (⟨some d, .binOp .and t x y yt, ty, pos, af, g⟩ :: rest) Q :=
  triL_val _ hok (fun a w ha _ => run_bin (ha.eval hx) (ha.eval hy) rfl bin_and) k
theorem o_or (k : TriX m cx ops ((d, .int ki (ki.wrap (BitVec.ofInt ki.bits p ||| BitVec.ofInt ki.bits q).toNat)) :: fs) H rest Q) : TriX m cx ops fs H (⟨some d, .binOp .or t x y yt, ty, pos, af, g⟩ :: rest) Q :=
  triL_val _ hok (fun a w ha _ => run_bin (ha.eval hx) (ha.eval hy) rfl bin_or) k
theorem o_xor (k : TriX m cx ops ((d, .int ki (ki.wrap (BitVec.ofInt ki.bits p ^^^ BitVec.ofInt ki.bits q).toNat)) :: fs) H rest Q) : TriX m cx ops fs H (⟨some d, .binOp .xor t x y yt, ty, pos, af, g⟩ :: rest) Q :=
  triL_val _ hok (fun a w ha _ => run_bin (ha.eval hx) (ha.eval hy) rfl bin_xor) k
theorem o_lss (k : TriX m cx ops ((d, .bool (decide (p < q))) :: fs) H rest Q) : TriX m cx ops fs H (⟨some d, .binOp .lss t x y yt, ty, pos, af, g⟩ :: rest) Q :=
  triL_val _ hok (fun a w ha _ => run_bin (ha.eval hx) (ha.eval hy) rfl bin_lss) k
theorem o_leq (k : TriX m cx ops ((d, .bool (decide (p ≤ q))) :: fs) H rest Q) : TriX m cx ops fs H (⟨some d, .binOp .leq t x y yt, ty, pos, af, g⟩ :: rest) Q :=
  triL_val _ hok (fun a w ha _ => run_bin (ha.eval hx) (ha.eval hy) rfl bin_leq) k
theorem o_gtr (k : TriX m cx ops ((d, .bool (decide (q < p))) :: fs) H rest Q) : TriX m cx ops fs H (⟨some d, .binOp .gtr t x y yt, ty, pos, af, g⟩ :: rest) Q :=
  triL_val _ hok (fun a w ha _ => run_bin (ha.eval hx) (ha.eval hy) rfl bin_gtr) k
theorem o_geq (k : TriX m cx ops ((d, .bool (decide (q ≤ p))) :: fs) H rest Q) : TriX m cx ops fs H (⟨some d, .binOp .geq t x y yt, ty, pos, af, g⟩ :: rest) Q :=
  triL_val _ hok (fun a w ha _ => run_bin (ha.eval hx) (ha.eval hy) rfl bin_geq) k
theorem o_eqlI (k : TriX m cx ops ((d, .bool (decide (p = q))) :: fs) H rest Q) : TriX m cx ops fs H (⟨some d, .binOp .eql t x y yt, ty, pos, af, g⟩ :: rest) Q :=
  triL_val _ hok (fun a w ha _ => run_bin (ha.eval hx) (ha.eval hy) (eqGuard_at_int _ _ _ _ _ _ _) bin_eqlI) k
theorem o_neqI (k : TriX m cx ops ((d, .bool (decide (p ≠ q))) :: fs) H rest Q) : TriX m cx ops fs H (⟨some d, .binOp .neq t x y yt, ty, pos, af, g⟩ :: rest) Q :=
  triL_val _ hok (fun a w ha _ => run_bin (ha.eval hx) (ha.eval hy) (eqGuard_at_int _ _ _ _ _ _ _) bin_neqI) k
end
section
variable {x y : Operand} {t yt : TypeId} {ki kj : IntKind} {p q : Int}
variable (hok : okS cx.n ops fs d g = true) (hx : ev fs x = some (.int ki p)) (hy : ev fs y = some (.int kj q))
include hok hx hy
theorem o_shl (hq : 0 ≤ q) (k : TriX m cx ops ((d, .int ki (ki.wrap (p * 2 ^ min q.toNat ki.bits))) :: fs) H rest Q) : TriX m cx ops fs H (⟨some d, .binOp .shl t x y yt, ty, pos, af, g⟩ :: rest) Q :=
  triL_val _ hok (fun a w ha _ => run_bin (ha.eval hx) (ha.eval hy) rfl (bin_shl hq)) k
theorem o_shr (hq : 0 ≤ q) (k : TriX m cx ops ((d, .int ki (p.fdiv (2 ^ min q.toNat ki.bits))) :: fs) H rest Q) : TriX m cx ops fs H (⟨some d, .binOp .shr t x y yt, ty, pos, af, g⟩ :: rest) Q :=
  triL_val _ hok (fun a w ha _ => run_bin (ha.eval hx) (ha.eval hy) rfl (bin_shr hq)) k
end
theorem o_negI {x : Operand} {t : TypeId} {ki : IntKind} {p : Int} (hok : okS cx.n ops fs d g = true) (hx : ev fs x = some (.int ki p))
    (k : TriX m cx ops ((d, .int ki (ki.wrap (0 - p))) :: fs) H rest Q) : TriX m cx ops fs H (⟨some d, .unOp .neg t x, ty, pos, af, g⟩ :: rest) Q :=
  triL_val _ hok (fun a w ha _ => run_un (ha.eval hx) (by simp [Op.unary, Op.intArith, Op.intBits])) k
theorem o_xorI {x : Operand} {t : TypeId} {ki : IntKind} {p : Int} (hok : okS cx.n ops fs d g = true) (hx : ev fs x = some (.int ki p))
    (k : TriX m cx ops ((d, .int ki (ki.wrap (BitVec.ofInt ki.bits (if ki.signed then -1 else ki.max) ^^^ BitVec.ofInt ki.bits p).toNat)) :: fs) H rest Q) : TriX m cx ops fs H (⟨some d, .unOp .xor t x, ty, pos, af, g⟩ :: rest) Q :=
  triL_val _ hok (fun a w ha _ => run_un (ha.eval hx) (by simp [Op.unary, Op.intArith, Op.intBits])) k
theorem o_conv {x : Operand} {t u : TypeId} {ki kj : IntKind} {p : Int} {ds : TypeDesc} (hok : okS cx.n ops fs d g = true) (hx : ev fs x = some (.int ki p)) (ht : cx.P.underlying t = some ds) (hu : cx.P.underlying u = some (.int kj))
    (k : TriX m cx ops ((d, .int kj (kj.wrap p)) :: fs) H rest Q) : TriX m cx ops fs H (⟨some d, .convert t u x, ty, pos, af, g⟩ :: rest) Q :=
  triL_val _ hok (fun a w ha _ => by
    simp only [execOp, ha.eval hx, convert, Sem.run_bind, run_underlying ht, run_underlying hu, Result.andThen_ok]
    cases ds <;> simp [Conv.intToInt]) k
/-- A number in a slot, said otherwise. -/
theorem triL_num {v v' : Value} {l : List Oper} (h : v = v') (k : TriX m cx ops ((d, v') :: fs) H l Q) : TriX m cx ops ((d, v) :: fs) H l Q := by rw [h]; exact k

/-! ### Truths -/
theorem o_not {x : Operand} {t : TypeId} {b : Bool} (hok : okS cx.n ops fs d g = true) (hx : ev fs x = some (.bool b)) (k : TriX m cx ops ((d, .bool (!b)) :: fs) H rest Q) : TriX m cx ops fs H (⟨some d, .unOp .not t x, ty, pos, af, g⟩ :: rest) Q :=
  triL_val _ hok (fun a w ha _ => run_un (ha.eval hx) (by simp [Op.unary, Op.intArith, Op.intBits])) k
theorem o_eqlB {x y : Operand} {t yt : TypeId} {b c : Bool} (hok : okS cx.n ops fs d g = true) (ht : cx.P.underlying t = some .bool) (hx : ev fs x = some (.bool b)) (hy : ev fs y = some (.bool c)) (k : TriX m cx ops ((d, .bool (b == c)) :: fs) H rest Q) :
    TriX m cx ops fs H (⟨some d, .binOp .eql t x y yt, ty, pos, af, g⟩ :: rest) Q :=
  triL_val _ hok (fun a w ha _ => run_bin (ha.eval hx) (ha.eval hy) (eqGuard_at_bool _ _ _ _ _ _) (run_eql_bool w t b c ht)) k
theorem o_neqB {x y : Operand} {t yt : TypeId} {b c : Bool} (hok : okS cx.n ops fs d g = true) (ht : cx.P.underlying t = some .bool) (hx : ev fs x = some (.bool b)) (hy : ev fs y = some (.bool c)) (k : TriX m cx ops ((d, .bool (b != c)) :: fs) H rest Q) :
    TriX m cx ops fs H (⟨some d, .binOp .neq t x y yt, ty, pos, af, g⟩ :: rest) Q :=
  triL_val _ hok (fun a w ha _ => run_bin (ha.eval hx) (ha.eval hy) (eqGuard_at_bool _ _ _ _ _ _) (by rw [run_neq_bool w t b c ht]; rfl)) k
end
end Go.WK
