/- The walk's own frame, fifth part: '&&' and '||' inside a region, whole numbers that do not wrap, structs' parts, small helps. Plain lemmas over any program. -/
import Derived.Test.YtdcdpegomncomaaGreatDoorWk4
namespace Go.WK
open Go.RowKit

def skipRun (n : Nat) (ops : Array Oper) : Slots → List Oper → Option Slots
  | fs, [] => some fs
  | fs, o :: l => match wantS ops fs o.guard with
    | some false => match o.dst with
      | some d => bif Nat.blt d n then skipRun n ops ((d, undef) :: fs) l else none
      | none => skipRun n ops fs l
    | _ => none

theorem wpList_append {P : Program} {ops : Array Oper} {R : Exit → Act → World → Prop} : ∀ (l1 l2 : List Oper) (a : Act) (w : World),
    wpList P ops (Exit.then (fun a w => wpList P ops R l2 a w) R) l1 a w → wpList P ops R (l1 ++ l2) a w
  | [], l2, a, w, h => h
  | o :: l1, l2, a, w, h => by
    simp only [List.cons_append]
    unfold wpList at h ⊢
    split
    · rename_i hw
      rw [if_pos hw] at h
      rcases h with h | ⟨h, a', w', hl⟩
      · exact .inl (upon_mono (fun a w hh => wpList_append l1 l2 a w hh) (fun _ _ _ h => h) (fun _ _ h => h) _ h)
      · exact .inr ⟨h, a', w', hl⟩
    · rename_i hw
      rw [if_neg hw] at h
      exact wpList_append l1 l2 _ _ h

section
variable {cx : Cx} {fs : Slots} {H : List Chunk} {Q : Post} {ops : Array Oper} {rest : List Oper} {g : Option (Nat × Bool)} {d : Nat} {ty : TypeId} {pos : String} {af : Array Edge}

theorem wpFix_append {P : Program} {C : World → Prop} {K : Act → Prop} : ∀ (l1 l2 : List Oper) (a : Act), wpFix P ops C (wpFix P ops C K l2) l1 a → wpFix P ops C K (l1 ++ l2) a
  | [], l2, a, h => h
  | o :: l1, l2, a, h => by
    simp only [List.cons_append]
    unfold wpFix at h ⊢
    split
    · rename_i hw; rw [if_pos hw] at h; obtain ⟨v, h1, h2⟩ := h; exact ⟨v, h1, wpFix_append l1 l2 _ h2⟩
    · rename_i hw; rw [if_neg hw] at h; exact wpFix_append l1 l2 _ h
theorem skipRun_spec {md : Bool} : ∀ (l : List Oper) (fs fs' : Slots) (rest : List Oper) (Q : Post), skipRun cx.n ops fs l = some fs' → TriX md cx ops fs' H rest Q → TriX md cx ops fs H (l ++ rest) Q
  | [], fs, fs', rest, Q, h, k => by simp only [skipRun, Option.some.injEq] at h; subst h; exact k
  | o :: l, fs, fs', rest, Q, h, k => by
    obtain ⟨dst, op, ty, pos, af, g⟩ := o
    unfold skipRun at h
    split at h
    · rename_i hw
      split at h
      · rename_i d hd
        simp only at hd
        subst hd
        cases hb : Nat.blt d cx.n with
        | false => simp [hb] at h
        | true =>
          simp only [hb, cond_true] at h
          exact triL_skip hw hb (skipRun_spec l _ fs' rest Q h k)
      · rename_i hd
        simp only at hd
        subst hd
        exact triL_skip0 hw (skipRun_spec l fs fs' rest Q h k)
    · cases h

/-- What a piece of a region leaves. -/
def Piece (keep : Slots) (H : List Chunk) (cx : Cx) (dj dr : Nat) (b y : Bool) : Post := fun e fs' H' => e = .normal ∧ look fs' dr = some (.bool y) ∧ look fs' dj = some (.bool b) ∧ Sub fs' keep ∧ ∀ w, Sat cx H' w → Sat cx H w

theorem Piece.mk {keep fs' : Slots} {H H' : List Chunk} {cx : Cx} {dj dr : Nat} {b y : Bool} (h1 : look fs' dr = some (.bool y)) (h2 : look fs' dj = some (.bool b)) (h3 : Sub fs' keep) (h4 : ∀ w, Sat cx H' w → Sat cx H w) : Piece keep H cx dj dr b y .normal fs' H' := ⟨rfl, h1, h2, h3, h4⟩

theorem Has.literal {n ds fs a} (h : Has n ds fs a) {dj : Nat} {x b : Bool} (hx : look fs dj = some (.bool x)) (hb : x = b) : Has n ds ((dj, .bool b) :: fs) a :=
  ⟨h.ds, h.size, fun e v he => by
    by_cases hd : dj = e
    · subst hd; rw [look_cons_self] at he; cases he; rw [← hb]; exact h.at_ _ _ hx
    · rw [look_cons_ne _ _ hd] at he; exact h.at_ _ _ he⟩

theorem wantS_mono {fs fs' : Slots} (hs : ∀ d v, look fs' d = some v → look fs d = some v) {x : Bool} (h : wantS ops fs' g = some x) : wantS ops fs g = some x := by
  cases g with
  | none => exact h
  | some p =>
    obtain ⟨j, b⟩ := p
    unfold wantS at h ⊢
    cases hd : (ops[j]?).bind (·.dst) with
    | none => simp only [hd] at h ⊢; exact h
    | some e =>
      simp only [hd] at h ⊢
      cases hl : look fs' e with
      | none => simp only [hl] at h; cases h
      | some v => simp only [hl, hs _ _ hl] at h ⊢; exact h
theorem okS_mono {n : Nat} {fs fs' : Slots} (hs : ∀ d v, look fs' d = some v → look fs d = some v) (h : okS n ops fs' d g = true) : okS n ops fs d g = true := by
  have h1 := wantS_mono hs (okS_want h)
  have h2 := okS_lt h
  simp [okS, h1, h2]
theorem Has.subF {n ds a} {fs fs' : Slots} (h : Has n ds fs a) (hs : ∀ d v, look fs' d = some v → look fs d = some v) : Has n ds fs' a := ⟨h.ds, h.size, fun d v hd => h.at_ d v (hs d v hd)⟩
theorem sub_both {fs fs' : Slots} (hs : ∀ d v, look fs' d = some v → look fs d = some v) (d : Nat) (u : Value) : ∀ e v, look ((d, u) :: fs') e = some v → look ((d, u) :: fs) e = some v := fun e v he => by
  by_cases hd : d = e
  · subst hd; rw [look_cons_self] at he ⊢; exact he
  · rw [look_cons_ne _ _ hd] at he ⊢; exact hs _ _ he

theorem TriX.literal {md : Bool} {l : List Oper} {dj : Nat} {x b : Bool} (hx : look fs dj = some (.bool x)) (hb : x = b) (h : TriX md cx ops ((dj, .bool b) :: fs) H l Q) : TriX md cx ops fs H l Q := by
  cases md with
  | false => exact fun a w ha hw => h a w (ha.literal hx hb) hw
  | true => exact fun a ha => h a (ha.literal hx hb)

/-- 'x && y' in one region: the operations of y are guarded by x. -/
theorem triL_and {md : Bool} (seg : List Oper) (keep : Slots) {l : List Oper} {dj dr : Nat} {x y : Bool} (hx : look fs dj = some (.bool x)) (hp : l = seg ++ ⟨some d, .pick (.tmp dj) (.tmp dr) (.const (.bool false)), ty, pos, af, g⟩ :: rest)
    (ht : x = true → TriX md cx ops ((dj, .bool true) :: fs) H seg (Piece keep H cx dj dr true y))
    (hf : ∃ fsF, skipRun cx.n ops ((dj, .bool false) :: fs) seg = some fsF ∧ look fsF dj = some (.bool false) ∧ look fsF dr = some undef ∧ Sub fsF keep)
    (hg : okS cx.n ops keep d g = true) (k : TriX md cx ops ((d, .bool (x && y)) :: keep) H rest Q) : TriX md cx ops fs H l Q := by
  rw [hp]
  cases hxb : x with
  | true =>
    rw [hxb] at k
    cases md with
    | true =>
      intro a ha
      refine wpFix_append _ _ a (wpFix_mono ?_ _ a (ht hxb a (ha.literal hx hxb)))
      rintro a' ⟨fs', h1, _, h3, h4, h5, h6⟩
      refine (o_pick (m := true) (c := .tmp dj) (x := .tmp dr) (y := .const (.bool false)) (t := true) (u := .bool y) (v := .bool false) (fs := fs') (okS_mono h5.get hg) h4 h3 rfl ?_ : TriX true cx ops fs' H _ Q) a' h1
      exact TriX.subF (sub_both h5.get _ _) k
    | false =>
    intro a w ha hw
    refine wpList_append _ _ a w (wpList_mono ?_ _ a w (ht hxb a w (ha.literal hx hxb) hw))
    rintro e a' w' ⟨fs', H', h1, h2, rfl, h3, h4, h5, h6⟩
    refine (o_pick (m := false) (c := .tmp dj) (x := .tmp dr) (y := .const (.bool false)) (t := true) (u := .bool y) (v := .bool false) (fs := fs') (okS_mono h5.get hg) h4 h3 rfl ?_ : TriX false cx ops fs' H _ Q) a' w' h1 (h6 _ h2)
    exact TriX.subF (sub_both h5.get _ _) k
  | false =>
    obtain ⟨fsF, hs, h3, h3', h5⟩ := hf
    refine TriX.literal hx hxb (skipRun_spec seg _ fsF _ Q hs ?_)
    refine o_pick (c := .tmp dj) (x := .tmp dr) (y := .const (.bool false)) (t := false) (u := undef) (v := .bool false) (fs := fsF) (okS_mono h5.get hg) h3 h3' rfl ?_
    refine TriX.subF (sub_both h5.get _ _) ?_
    rw [hxb] at k
    exact k

/-- 'x || y' in one region. -/
theorem triL_or {md : Bool} (seg : List Oper) (keep : Slots) {l : List Oper} {dj dr : Nat} {x y : Bool} (hx : look fs dj = some (.bool x)) (hp : l = seg ++ ⟨some d, .pick (.tmp dj) (.const (.bool true)) (.tmp dr), ty, pos, af, g⟩ :: rest)
    (hf : x = false → TriX md cx ops ((dj, .bool false) :: fs) H seg (Piece keep H cx dj dr false y))
    (ht : ∃ fsF, skipRun cx.n ops ((dj, .bool true) :: fs) seg = some fsF ∧ look fsF dj = some (.bool true) ∧ look fsF dr = some undef ∧ Sub fsF keep)
    (hg : okS cx.n ops keep d g = true) (k : TriX md cx ops ((d, .bool (x || y)) :: keep) H rest Q) : TriX md cx ops fs H l Q := by
  rw [hp]
  cases hxb : x with
  | false =>
    rw [hxb] at k
    cases md with
    | true =>
      intro a ha
      refine wpFix_append _ _ a (wpFix_mono ?_ _ a (hf hxb a (ha.literal hx hxb)))
      rintro a' ⟨fs', h1, _, h3, h4, h5, h6⟩
      refine (o_pick (m := true) (c := .tmp dj) (x := .const (.bool true)) (y := .tmp dr) (t := false) (u := .bool true) (v := .bool y) (fs := fs') (okS_mono h5.get hg) h4 rfl h3 ?_ : TriX true cx ops fs' H _ Q) a' h1
      exact TriX.subF (sub_both h5.get _ _) k
    | false =>
    intro a w ha hw
    refine wpList_append _ _ a w (wpList_mono ?_ _ a w (hf hxb a w (ha.literal hx hxb) hw))
    rintro e a' w' ⟨fs', H', h1, h2, rfl, h3, h4, h5, h6⟩
    refine (o_pick (m := false) (c := .tmp dj) (x := .const (.bool true)) (y := .tmp dr) (t := false) (u := .bool true) (v := .bool y) (fs := fs') (okS_mono h5.get hg) h4 rfl h3 ?_ : TriX false cx ops fs' H _ Q) a' w' h1 (h6 _ h2)
    exact TriX.subF (sub_both h5.get _ _) k
  | true =>
    obtain ⟨fsF, hs, h3, h3', h5⟩ := ht
    refine TriX.literal hx hxb (skipRun_spec seg _ fsF _ Q hs ?_)
    refine o_pick (c := .tmp dj) (x := .const (.bool true)) (y := .tmp dr) (t := true) (u := .bool true) (v := undef) (fs := fsF) (okS_mono h5.get hg) h3 rfl h3' ?_
    refine TriX.subF (sub_both h5.get _ _) ?_
    rw [hxb] at k
    exact k

/-! ### Whole numbers that do not wrap -/
theorem wrap_in {x : Int} (h : -9223372036854775808 ≤ x ∧ x ≤ 9223372036854775807) : IntKind.i64.wrap x = x := IntWalk.i64_in _ h
section
variable {md : Bool} {x y : Operand} {t yt : TypeId} {p q : Int}
variable (hok : okS cx.n ops fs d g = true) (hx : ev fs x = some (.int .i64 p)) (hy : ev fs y = some (.int .i64 q))
include hok hx hy
theorem o_addN (hb : -9223372036854775808 ≤ p + q ∧ p + q ≤ 9223372036854775807) (k : TriX md cx ops ((d, .int .i64 (p + q)) :: fs) H rest Q) : TriX md cx ops fs H (⟨some d, .binOp .add t x y yt, ty, pos, af, g⟩ :: rest) Q :=
  o_add hok hx hy (by rw [wrap_in hb]; exact k)
theorem o_subN (hb : -9223372036854775808 ≤ p - q ∧ p - q ≤ 9223372036854775807) (k : TriX md cx ops ((d, .int .i64 (p - q)) :: fs) H rest Q) : TriX md cx ops fs H (⟨some d, .binOp .sub t x y yt, ty, pos, af, g⟩ :: rest) Q :=
  o_sub hok hx hy (by rw [wrap_in hb]; exact k)
theorem o_mulN (hb : -9223372036854775808 ≤ p * q ∧ p * q ≤ 9223372036854775807) (k : TriX md cx ops ((d, .int .i64 (p * q)) :: fs) H rest Q) : TriX md cx ops fs H (⟨some d, .binOp .mul t x y yt, ty, pos, af, g⟩ :: rest) Q :=
  o_mul hok hx hy (by rw [wrap_in hb]; exact k)
theorem o_quoN (h0 : 0 ≤ p) (hp : p ≤ 9223372036854775807) (h1 : 1 ≤ q) (k : TriX md cx ops ((d, .int .i64 (p / q)) :: fs) H rest Q) : TriX md cx ops fs H (⟨some d, .binOp .quo t x y yt, ty, pos, af, g⟩ :: rest) Q := by
  refine o_quo hok hx hy (by omega) ?_
  have h2 : p.tdiv q = p / q := Int.tdiv_eq_ediv_of_nonneg h0
  have h3 : 0 ≤ p / q := Int.ediv_nonneg h0 (by omega)
  have h4 : p / q ≤ p := Int.ediv_le_self _ h0
  rw [h2, wrap_in (by omega)]
  exact k
theorem o_remN (h0 : 0 ≤ p) (h1 : 1 ≤ q) (k : TriX md cx ops ((d, .int .i64 (p % q)) :: fs) H rest Q) : TriX md cx ops fs H (⟨some d, .binOp .rem t x y yt, ty, pos, af, g⟩ :: rest) Q := by
  refine o_rem hok hx hy (by omega) ?_
  rw [Int.tmod_eq_emod_of_nonneg h0]
  exact k
end

/-! ### Parts -/
theorem o_extract {md : Bool} {x : Operand} {i : Nat} {vs : List Value} {v : Value} (hok : okS cx.n ops fs d g = true) (hx : ev fs x = some (.tuple vs.toArray)) (hv : vs[i]? = some v) (k : TriX md cx ops ((d, v) :: fs) H rest Q) : TriX md cx ops fs H (⟨some d, .extract x i, ty, pos, af, g⟩ :: rest) Q :=
  triL_val v hok (fun a w ha _ => by simp [execOp, ha.eval hx, Instr.extract, hv]) k
theorem o_makeFunc {md : Bool} {fn : Fn} {xs ys : List Operand} {us vs : List Value} (hok : okS cx.n ops fs d g = true) (hx : evs fs xs = some us) (hy : evs fs ys = some vs) (k : TriX md cx ops ((d, .func fn us.toArray vs.toArray) :: fs) H rest Q) :
    TriX md cx ops fs H (⟨some d, .makeFunc fn xs.toArray ys.toArray, ty, pos, af, g⟩ :: rest) Q :=
  triL_val _ hok (fun a w ha _ => by simp [execOp, Instr.makeFunc, ha.evals hx, ha.evals hy]) k
theorem o_iface {md : Bool} {x : Operand} {t : TypeId} {v : Value} {ds : TypeDesc} (ht : cx.P.underlying t = some ds) (hni : (match ds with | .interface _ => true | _ => false) = false) (hok : okS cx.n ops fs d g = true) (hx : ev fs x = some v) (k : TriX md cx ops ((d, .iface t v) :: fs) H rest Q) :
    TriX md cx ops fs H (⟨some d, .makeInterface t x, ty, pos, af, g⟩ :: rest) Q :=
  triL_val _ hok (fun a w ha _ => by cases ds <;> simp_all [execOp, ha.eval hx, Instr.makeInterface, run_underlying ht]) k
theorem o_nilCheck {md : Bool} {x : Operand} {ad : Addr} (hok : okS cx.n ops fs d g = true) (hx : ev fs x = some (.pointer (some ad))) (k : TriX md cx ops ((d, .pointer (some ad)) :: fs) H rest Q) : TriX md cx ops fs H (⟨some d, .nilCheck x, ty, pos, af, g⟩ :: rest) Q :=
  triL_val _ hok (fun a w ha _ => by simp [execOp, ha.eval hx]) k
end

/-! ### A condition, its test read -/
theorem tri_if {cx : Cx} {fs : Slots} {H : List Chunk} {Q : Post} {c : Operand} {x y : Code} {p : Prop} [Decidable p] (hc : ev fs c = some (.bool (decide p))) (ht : p → Tri cx fs H x Q) (hf : ¬ p → Tri cx fs H y Q) : Tri cx fs H (.cond c x y) Q :=
  tri_cond hc (fun h => ht (of_decide_eq_true h)) (fun h => hf (of_decide_eq_false h))
/-- What two ways leave alike. -/
def joinQ (cx : Cx) {ι : Type} (F : ι → Slots) (HH : ι → List Chunk) (Pu : ι → Prop) (fs : Slots) (H : List Chunk) : Prop := ∃ i, Sub fs (F i) ∧ (∀ w, Sat cx H w → Sat cx (HH i) w) ∧ Pu i
theorem tri_join {cx : Cx} {fs : Slots} {H : List Chunk} {Q : Post} {x y : Code} {ι : Type} (F : ι → Slots) (HH : ι → List Chunk) (Pu : ι → Prop) (h : Tri cx fs H x (thenQ (joinQ cx F HH Pu) Q)) (k : ∀ i, Pu i → Tri cx (F i) (HH i) y Q) : Tri cx fs H (.seq x y) Q :=
  tri_seq_at _ h fun fs' H' ⟨i, hs, hh, hp⟩ => Tri.sub hs (Tri.heap hh (k i hp))
/-- Known slots named anew. -/
theorem tri_slots {cx : Cx} {fs : Slots} {H : List Chunk} {Q : Post} {c : Code} (fs' : Slots) (hs : Sub fs fs') (h : Tri cx fs' H c Q) : Tri cx fs H c Q := Tri.sub hs h
end Go.WK
