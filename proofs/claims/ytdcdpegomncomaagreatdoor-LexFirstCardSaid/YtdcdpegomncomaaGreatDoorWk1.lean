/- The walk's own frame: known slots, a symbolic heap of chunks, and the judgement 'Tri' on code, with its rules. Plain lemmas over any program; no program in sight. -/
import Derived.WalkKit
import Derived.Below
import Derived.Deep.Draws
import Derived.Maps.AppendAt
import Derived.Laws.CopyOwn
import Derived.Deep.Quiet
namespace Go.WK
open Go.RowKit

/-! ### Known slots -/

abbrev Slots := List (Nat × Value)

def look : Slots → Nat → Option Value
  | [], _ => none
  | (k, v) :: r, d => bif Nat.beq k d then some v else look r d

structure Has (n : Nat) (ds : List Deferred) (fs : Slots) (a : Act) : Prop where
  ds : a.defers = ds
  size : a.tmps.size = n
  at_ : ∀ d v, look fs d = some v → a.tmps[d]? = some v

def ev (fs : Slots) : Operand → Option Value
  | .tmp t => look fs t
  | .const v => some v
  | .global g => some (.pointer (some ⟨g, 0, none⟩))
  | .func f => some (.func (.func f) #[] #[])

theorem Has.get {n ds fs a} (h : Has n ds fs a) {t : Nat} {v : Value} (hx : look fs t = some v) : a.tmps.getD t undef = v := by
  have := h.at_ t v hx
  simp [Array.getD_eq_getD_getElem?, this]

theorem Has.eval {n ds fs a} (h : Has n ds fs a) {x : Operand} {v : Value} (hx : ev fs x = some v) : a.eval x = v := by
  cases x with
  | tmp t => exact h.get hx
  | const u => simpa [ev, Act.eval] using hx
  | global g => simpa [ev, Act.eval] using hx
  | func f => simpa [ev, Act.eval] using hx

theorem beq_ne {d e : Nat} (h : d ≠ e) : Nat.beq d e = false := by
  cases hh : Nat.beq d e
  · rfl
  · exact absurd (Nat.eq_of_beq_eq_true hh) h
theorem ne_of_beq {d e : Nat} (h : Nat.beq d e = false) : d ≠ e := fun e' => by
  subst e'
  rw [Nat.beq_refl] at h
  cases h
theorem look_cons_self (fs : Slots) (d : Nat) (v : Value) : look ((d, v) :: fs) d = some v := by simp [look]
theorem look_cons_ne (fs : Slots) {d e : Nat} (v : Value) (h : d ≠ e) : look ((d, v) :: fs) e = look fs e := by
  have : Nat.beq d e = false := beq_ne h
  simp [look, this]

theorem Has.put {n ds fs a} (h : Has n ds fs a) {d : Nat} (hd : Nat.blt d n = true) (v : Value) : Has n ds ((d, v) :: fs) (a.put (some d) v) := by
  have hd' : d < a.tmps.size := by have := h.size; simp at hd; omega
  refine ⟨h.ds, by simp [Act.put, h.size], fun e u he => ?_⟩
  by_cases hde : d = e
  · subst hde
    rw [look_cons_self] at he
    injection he with he
    subst he
    simp [Act.put, hd']
  · rw [look_cons_ne _ _ hde] at he
    have := h.at_ e u he
    simp only [Act.put, Array.getElem?_setIfInBounds, hde, if_false]
    exact this

theorem Has.putNone {n ds fs a} (h : Has n ds fs a) (v : Value) : Has n ds fs (a.put none v) := h

/-- fs' knows no more than fs. -/
def Sub : Slots → Slots → Prop
  | _, [] => True
  | fs, (d, v) :: r => look fs d = some v ∧ Sub fs r

theorem Sub.get {fs fs' : Slots} (h : Sub fs fs') : ∀ d v, look fs' d = some v → look fs d = some v := by
  induction fs' with
  | nil => intro d v h; simp [look] at h
  | cons x r ih =>
    obtain ⟨k, u⟩ := x
    obtain ⟨h1, h2⟩ := h
    intro d v hd
    by_cases hk : k = d
    · subst hk; rw [look_cons_self] at hd; injection hd with hd; subst hd; exact h1
    · rw [look_cons_ne _ _ hk] at hd; exact ih h2 d v hd

theorem Has.sub {n ds fs fs' a} (h : Has n ds fs a) (hs : Sub fs fs') : Has n ds fs' a := ⟨h.ds, h.size, fun d v hd => h.at_ d v (hs.get d v hd)⟩

theorem Sub.nil (fs : Slots) : Sub fs [] := trivial
theorem Sub.cons {fs r : Slots} {d : Nat} {v : Value} (h : look fs d = some v) (hr : Sub fs r) : Sub fs ((d, v) :: r) := ⟨h, hr⟩
/-- Of a list of slots' numbers, what is known of them. -/
def pickS (fs : Slots) : List Nat → Slots
  | [] => []
  | d :: r => match look fs d with | some v => (d, v) :: pickS fs r | none => pickS fs r
theorem Sub.pickS (fs : Slots) : ∀ l, Sub fs (pickS fs l)
  | [] => trivial
  | d :: r => by
    unfold WK.pickS
    split
    · rename_i v h; exact ⟨h, Sub.pickS fs r⟩
    · exact Sub.pickS fs r
/-- Known slots of which some are struck. -/
def dropS (l : List Nat) : Slots → Slots
  | [] => []
  | (d, v) :: r => bif l.any (Nat.beq d) then dropS l r else (d, v) :: dropS l r

/-! ### Worlds that have changed at some blocks alone -/

/-- Only the blocks of 'l', and new ones, may differ. -/
structure Chg (l : List Nat) (w w' : World) : Prop where
  os : w'.os = w.os
  tape : w'.tape = w.tape
  output : w'.output = w.output
  size : w.heap.size ≤ w'.heap.size
  block : ∀ k, k < w.heap.size → k ∉ l → w'.heap[k]? = w.heap[k]?

theorem Chg.refl (l : List Nat) (w : World) : Chg l w w := ⟨rfl, rfl, rfl, Nat.le_refl _, fun _ _ _ => rfl⟩
theorem Chg.trans {l a b c} (h : Chg l a b) (k : Chg l b c) : Chg l a c :=
  ⟨k.os.trans h.os, k.tape.trans h.tape, k.output.trans h.output, Nat.le_trans h.size k.size, fun i hi hl => (k.block i (Nat.lt_of_lt_of_le hi h.size) hl).trans (h.block i hi hl)⟩
theorem Chg.mono {l l' a b} (h : Chg l a b) (hl : ∀ k, k < a.heap.size → k ∈ l → k ∈ l') : Chg l' a b :=
  ⟨h.os, h.tape, h.output, h.size, fun i hi hn => h.block i hi (fun hm => hn (hl i hi hm))⟩
theorem Chg.drew {l a w} (h : Chg l a w) : Chg l a w.drew := ⟨h.os, h.tape, h.output, h.size, h.block⟩
theorem Chg.of_eq (w w' : World) (l : List Nat) (h : w'.heap = w.heap) (ho : w'.os = w.os) (ht : w'.tape = w.tape) (hp : w'.output = w.output) : Chg l w w' := ⟨ho, ht, hp, by rw [h]; exact Nat.le_refl _, fun k _ _ => by rw [h]⟩
theorem Chg.alloc (l : List Nat) (w : World) (o : Obj) : Chg l w (w.alloc o) :=
  ⟨rfl, rfl, rfl, by simp, fun k hk _ => Below.heap_alloc w o k hk⟩
theorem Chg.setCell {l : List Nat} (w : World) {p : Addr} (u : Value) (h : p.block ∈ l) : Chg l w (w.setCell p u) :=
  ⟨rfl, rfl, rfl, by simp [World.setCell], fun k _ hk => Below.heap_setCell w p u k (fun e => hk (e ▸ h))⟩
theorem Chg.below {w w' : World} (h : Chg [] w w') : Below w.heap.size w w' := ⟨h.os, h.tape, h.output, h.size, fun k hk => h.block k hk (by simp)⟩
theorem Chg.of_below {w w' : World} (h : Below w.heap.size w w') : Chg [] w w' := ⟨h.os, h.tape, h.output, h.size, fun k hk _ => h.block k hk⟩
theorem Chg.of_grown {w w' : World} (h : w.grownBy w' none) (l : List Nat) : Chg l w w' := ⟨h.os, h.tape, h.output, h.size, fun k hk _ => h.block k hk (by simp)⟩
theorem Chg.of_grown_row {w w' : World} {r : Option Nat} (h : w.grownBy w' r) (l : List Nat) (hl : ∀ k, r = some k → k ∈ l) : Chg l w w' :=
  ⟨h.os, h.tape, h.output, h.size, fun k hk hn => h.block k hk (fun e => hn (hl k e.symm))⟩

/-! ### Chunks -/

/-- A piece of memory that is known: the blocks that it speaks of, and what it says of them. -/
structure Chunk where
  fp : Nat → Prop
  holds : World → Prop
  lt : ∀ w k, holds w → fp k → k < w.heap.size
  stab : ∀ w w', holds w → (∀ k, fp k → w'.heap[k]? = w.heap[k]?) → holds w'

/-- A block known whole. -/
def box (g : Nat) (t : TypeId) (cs : List Value) : Chunk where
  fp k := k = g
  holds w := w.heap[g]? = some (.cells cs.toArray t (0, 0))
  lt w k h hk := by
    subst hk
    rcases Nat.lt_or_ge k w.heap.size with hlt | hge
    · exact hlt
    · rw [Array.getElem?_eq_none hge] at h; cases h
  stab w w' h hk := by rw [hk g rfl]; exact h

/-- A slice value that owns its row. -/
def row (v : Value) (e : TypeId) (size : Nat) (n : Nat) (xs : List Value) : Chunk where
  fp k := v.ownBlock = some k
  holds w := w.ownsRow 0 e size v n xs
  lt w k h hk := (h.lt k hk).2
  stab w w' h hk := by
    obtain ⟨h1, h2⟩ := h
    refine ⟨h1, ?_⟩
    rcases h2 with h2 | ⟨g, cap, cur, hv, hg, hh, r⟩
    · exact .inl h2
    · exact .inr ⟨g, cap, cur, hv, hg, by rw [hk g (by rw [hv]; rfl)]; exact hh, r⟩

/-- What does not change at all: a fact on the blocks of a set. -/
def fact (fp : Nat → Prop) (φ : World → Prop) (lt : ∀ w k, φ w → fp k → k < w.heap.size) (stab : ∀ w w', φ w → (∀ k, fp k → w'.heap[k]? = w.heap[k]?) → φ w') : Chunk := ⟨fp, φ, lt, stab⟩

/-! ### The symbolic state -/

structure Cx where
  P : Program
  n : Nat
  ds : List Deferred
  w0 : World
  lent : List Nat

structure Sat (cx : Cx) (H : List Chunk) (w : World) : Prop where
  chg : Chg cx.lent cx.w0 w
  holds : ∀ c ∈ H, c.holds w
  fresh : ∀ c ∈ H, ∀ k, c.fp k → cx.w0.heap.size ≤ k ∨ k ∈ cx.lent
  apart : H.Pairwise fun c d => ∀ k, c.fp k → ¬ d.fp k

theorem Sat.start (P n ds w) : Sat ⟨P, n, ds, w, []⟩ [] w := ⟨Chg.refl _ _, by simp, by simp, .nil⟩

theorem Sat.lt {cx H w} (h : Sat cx H w) {c : Chunk} (hc : c ∈ H) {k : Nat} (hk : c.fp k) : k < w.heap.size := c.lt w k (h.holds c hc) hk

/-- The world grows, nothing that is there changes. -/
theorem Sat.ext {cx H w w'} (h : Sat cx H w) (hx : Chg [] w w') : Sat cx H w' :=
  ⟨h.chg.trans (hx.mono (by simp)), fun c hc => c.stab w w' (h.holds c hc) (fun k hk => hx.block k (h.lt hc hk) (by simp)), h.fresh, h.apart⟩

theorem Sat.drew {cx H w} (h : Sat cx H w) : Sat cx H w.drew := h.ext (Chg.drew (Chg.refl _ _))

/-- A new chunk, of new blocks. -/
theorem Sat.push {cx H w w'} (h : Sat cx H w) (hx : Chg [] w w') (c : Chunk) (hc : c.holds w') (hnew : ∀ k, c.fp k → w.heap.size ≤ k) : Sat cx (c :: H) w' := by
  have h' := h.ext hx
  refine ⟨h'.chg, fun d hd => ?_, fun d hd k hk => ?_, .cons (fun d hd k hk hdk => ?_) h.apart⟩
  · rcases List.mem_cons.1 hd with rfl | hd
    · exact hc
    · exact h'.holds d hd
  · rcases List.mem_cons.1 hd with rfl | hd
    · exact .inl (Nat.le_trans h.chg.size (hnew k hk))
    · exact h.fresh d hd k hk
  · have := hnew k hk; have := h.lt hd hdk; omega

theorem Sat.tail {cx c H w} (h : Sat cx (c :: H) w) : Sat cx H w :=
  ⟨h.chg, fun d hd => h.holds d (List.mem_cons_of_mem _ hd), fun d hd => h.fresh d (List.mem_cons_of_mem _ hd), (List.pairwise_cons.1 h.apart).2⟩

theorem Sat.sublist {cx H H' w} (h : Sat cx H w) (hs : H'.Sublist H) : Sat cx H' w :=
  ⟨h.chg, fun d hd => h.holds d (hs.subset hd), fun d hd => h.fresh d (hs.subset hd), h.apart.sublist hs⟩

theorem pairwise_apart_perm {l l' : List Chunk} (hp : l.Perm l') (h : l.Pairwise fun c d => ∀ k, c.fp k → ¬ d.fp k) : l'.Pairwise fun c d => ∀ k, c.fp k → ¬ d.fp k :=
  (hp.pairwise_iff (fun {_ _} hxy k hk hx => hxy k hx hk)).1 h

theorem Sat.perm {cx H H' w} (h : Sat cx H w) (hp : H.Perm H') : Sat cx H' w :=
  ⟨h.chg, fun d hd => h.holds d (hp.mem_iff.2 hd), fun d hd => h.fresh d (hp.mem_iff.2 hd), pairwise_apart_perm hp h.apart⟩

/-- The chunk at place i. -/
inductive Nth : List Chunk → Nat → Chunk → Prop where
  | z {c l} : Nth (c :: l) 0 c
  | s {c d l i} : Nth l i c → Nth (d :: l) (i + 1) c

theorem Nth.mem {l i c} (h : Nth l i c) : c ∈ l := by
  induction h with
  | z => exact List.mem_cons_self
  | s _ ih => exact List.mem_cons_of_mem _ ih

/-- The chunk at place i in another state. -/
def setH : List Chunk → Nat → Chunk → List Chunk
  | [], _, _ => []
  | _ :: l, 0, c => c :: l
  | d :: l, i + 1, c => d :: setH l i c

theorem Nth.split {l i c} (h : Nth l i c) (c' : Chunk) : ∃ l1 l2, l = l1 ++ c :: l2 ∧ setH l i c' = l1 ++ c' :: l2 := by
  induction h with
  | z => exact ⟨[], _, rfl, rfl⟩
  | @s c d l i _ ih =>
    obtain ⟨l1, l2, h1, h2⟩ := ih
    exact ⟨d :: l1, l2, by rw [h1]; rfl, by simp [setH, h2]⟩

/-- One chunk changes: the blocks that change are its own or new ones; what it is then lies in its own blocks or in new ones. -/
theorem Sat.change {cx H w w'} (h : Sat cx H w) {i : Nat} {c : Chunk} (hn : Nth H i c) (c' : Chunk) (hc' : c'.holds w')
    (hos : w'.os = w.os) (htp : w'.tape = w.tape) (hou : w'.output = w.output) (hsz : w.heap.size ≤ w'.heap.size)
    (hbl : ∀ k, k < w.heap.size → ¬ c.fp k → w'.heap[k]? = w.heap[k]?) (hfp : ∀ k, c'.fp k → c.fp k ∨ w.heap.size ≤ k) : Sat cx (setH H i c') w' := by
  obtain ⟨l1, l2, rfl, h2⟩ := hn.split c'
  rw [h2]
  have hperm : (l1 ++ c :: l2).Perm (c :: (l1 ++ l2)) := List.perm_middle
  have hs := h.perm hperm
  have hperm' : (c' :: (l1 ++ l2)).Perm (l1 ++ c' :: l2) := List.perm_middle.symm
  refine Sat.perm ?_ hperm'
  have hap := List.pairwise_cons.1 hs.apart
  have hmem : c ∈ c :: (l1 ++ l2) := List.mem_cons_self
  refine ⟨⟨hos.trans h.chg.os, htp.trans h.chg.tape, hou.trans h.chg.output, Nat.le_trans h.chg.size hsz, fun k hk hl => ?_⟩, fun d hd => ?_, fun d hd k hk => ?_, .cons (fun d hd k hk hdk => ?_) hap.2⟩
  · have hnc : ¬ c.fp k := fun hf => by
      rcases hs.fresh c hmem k hf with h1 | h1
      · omega
      · exact hl h1
    exact (hbl k (Nat.lt_of_lt_of_le hk h.chg.size) hnc).trans (h.chg.block k hk hl)
  · rcases List.mem_cons.1 hd with rfl | hd
    · exact hc'
    · have hm := List.mem_cons_of_mem c hd
      exact d.stab w w' (hs.holds d hm) (fun k hk => hbl k (hs.lt hm hk) (fun hf => hap.1 d hd k hf hk))
  · rcases List.mem_cons.1 hd with rfl | hd
    · rcases hfp k hk with h1 | h1
      · exact hs.fresh c hmem k h1
      · exact .inl (Nat.le_trans h.chg.size h1)
    · exact hs.fresh d (List.mem_cons_of_mem _ hd) k hk
  · rcases hfp k hk with h1 | h1
    · exact hap.1 d hd k h1 hdk
    · have := hs.lt (List.mem_cons_of_mem c hd) hdk; omega

/-! ### The judgements -/

abbrev Post := Exit → Slots → List Chunk → Prop

def lift (cx : Cx) (Q : Post) : Exit → Act → World → Prop := fun e a w => ∃ fs H, Has cx.n cx.ds fs a ∧ Sat cx H w ∧ Q e fs H

def Tri (cx : Cx) (fs : Slots) (H : List Chunk) (c : Code) (Q : Post) : Prop :=
  ∀ a w, Has cx.n cx.ds fs a → Sat cx H w → c.wp cx.P (lift cx Q) a w

def TriL (cx : Cx) (ops : Array Oper) (fs : Slots) (H : List Chunk) (l : List Oper) (Q : Post) : Prop :=
  ∀ a w, Has cx.n cx.ds fs a → Sat cx H w → wpList cx.P ops (lift cx Q) l a w

/-- The lexical walk of operations each of which yields one value in every world of a class, and leaves what is there. -/
def wpFix (P : Program) (ops : Array Oper) (C : World → Prop) (Q : Act → Prop) : List Oper → Act → Prop
  | [], a => Q a
  | o :: rest, a => if Region.wanted o (yielded ops a.tmps) then ∃ v, (∀ w, C w → o.quietAt P a (Chg [] w) w v) ∧ wpFix P ops C Q rest (a.put o.dst v) else wpFix P ops C Q rest (a.put o.dst undef)

/-- The lexical walk of a region whose operations leave the world alone but for what is new. -/
def TriQ (cx : Cx) (ops : Array Oper) (fs : Slots) (H : List Chunk) (l : List Oper) (Q : Post) : Prop :=
  ∀ a, Has cx.n cx.ds fs a → wpFix cx.P ops (Sat cx H) (fun a' => ∃ fs', Has cx.n cx.ds fs' a' ∧ Q .normal fs' H) l a

/-- Both: 'false': one after the other, 'true': in an order that is not fixed. -/
def TriX (m : Bool) (cx : Cx) (ops : Array Oper) (fs : Slots) (H : List Chunk) (l : List Oper) (Q : Post) : Prop :=
  match m with
  | false => TriL cx ops fs H l Q
  | true => TriQ cx ops fs H l Q

section rules
variable {cx : Cx} {fs : Slots} {H : List Chunk} {Q : Post}

theorem Tri.mono {c : Code} {Q' : Post} (h : Tri cx fs H c Q) (hq : ∀ e fs H, Q e fs H → Q' e fs H) : Tri cx fs H c Q' :=
  fun a w ha hw => Go.wp_mono (h a w ha hw) fun _ _ _ ⟨fs', H', h1, h2, h3⟩ => ⟨fs', H', h1, h2, hq _ _ _ h3⟩

theorem Tri.sub {c : Code} {fs' : Slots} (hs : Sub fs fs') (h : Tri cx fs' H c Q) : Tri cx fs H c Q := fun a w ha hw => h a w (ha.sub hs) hw
theorem Tri.heap {c : Code} {H' : List Chunk} (hs : ∀ w, Sat cx H w → Sat cx H' w) (h : Tri cx fs H' c Q) : Tri cx fs H c Q := fun a w ha hw => h a w ha (hs w hw)
theorem Tri.drop {c : Code} {H' : List Chunk} (hs : H'.Sublist H) (h : Tri cx fs H' c Q) : Tri cx fs H c Q := Tri.heap (fun _ hw => hw.sublist hs) h
theorem Tri.cast {c : Code} {H' : List Chunk} (hs : H = H') (h : Tri cx fs H' c Q) : Tri cx fs H c Q := hs ▸ h
/-- A fact that holds in every world of the state. -/
theorem Tri.know {c : Code} {p : Prop} (hp : ∀ w, Sat cx H w → p) (h : p → Tri cx fs H c Q) : Tri cx fs H c Q := fun a w ha hw => h (hp w hw) a w ha hw

def thenQ (K : Slots → List Chunk → Prop) (Q : Post) : Post
  | .normal, fs, H => K fs H
  | e, fs, H => Q e fs H

theorem tri_seq {x y : Code} (h : Tri cx fs H x (thenQ (fun fs H => Tri cx fs H y Q) Q)) : Tri cx fs H (.seq x y) Q := fun a w ha hw => by
  refine wp_seq (Go.wp_mono (h a w ha hw) fun e a' w' ⟨fs', H', h1, h2, h3⟩ => ?_)
  cases e with
  | normal => exact h3 a' w' h1 h2
  | _ => exact ⟨fs', H', h1, h2, h3⟩

/-- A cut: what is known behind the first half is named. -/
theorem tri_seq_at {x y : Code} (K : Slots → List Chunk → Prop) (h : Tri cx fs H x (thenQ K Q)) (hk : ∀ fs H, K fs H → Tri cx fs H y Q) : Tri cx fs H (.seq x y) Q :=
  tri_seq (h.mono fun e fs H hq => by cases e <;> first | exact hk _ _ hq | exact hq)

theorem tri_skip (h : Q .normal fs H) : Tri cx fs H .skip Q := fun _ _ ha hw => wp_skip ⟨fs, H, ha, hw, h⟩
theorem tri_label {l : Nat} (h : Q .normal fs H) : Tri cx fs H (.label l) Q := fun _ _ ha hw => wp_label ⟨fs, H, ha, hw, h⟩
theorem tri_exit {id : Nat} (h : Q (.exit id) fs H) : Tri cx fs H (.exit id) Q := fun _ _ ha hw => wp_exit ⟨fs, H, ha, hw, h⟩
theorem tri_goto {id : Nat} (h : Q (.goto id) fs H) : Tri cx fs H (.goto id) Q := fun _ _ ha hw => wp_goto ⟨fs, H, ha, hw, h⟩
theorem tri_ret (h : Q .ret fs H) : Tri cx fs H .ret Q := fun _ _ ha hw => wp_ret ⟨fs, H, ha, hw, h⟩

def blockQ (id : Nat) (Q : Post) : Post
  | .exit id', fs, H => if id' = id then Q .normal fs H else Q (.exit id') fs H
  | e, fs, H => Q e fs H

theorem tri_block {id : Nat} {c : Code} (h : Tri cx fs H c (blockQ id Q)) : Tri cx fs H (.block id c) Q := fun a w ha hw => by
  refine wp_block (Go.wp_mono (h a w ha hw) fun e a' w' ⟨fs', H', h1, h2, h3⟩ => ?_)
  cases e with
  | exit id' =>
    simp only [blockQ] at h3
    simp only [Exit.inBlock]
    split
    · rename_i hid; rw [if_pos hid] at h3; exact ⟨fs', H', h1, h2, h3⟩
    · rename_i hid; rw [if_neg hid] at h3; exact ⟨fs', H', h1, h2, h3⟩
  | _ => exact ⟨fs', H', h1, h2, h3⟩

theorem blockQ_here {id : Nat} (h : Q .normal fs H) : blockQ id Q (.exit id) fs H := by simp only [blockQ, if_true]; exact h
theorem blockQ_other {id id' : Nat} (hne : Nat.beq id' id = false) (h : Q (.exit id') fs H) : blockQ id Q (.exit id') fs H := by
  have : id' ≠ id := ne_of_beq hne
  simp only [blockQ, this, if_false]; exact h
theorem blockQ_normal {id : Nat} (h : Q .normal fs H) : blockQ id Q .normal fs H := h
theorem blockQ_ret {id : Nat} (h : Q .ret fs H) : blockQ id Q .ret fs H := h
theorem blockQ_goto {id l : Nat} (h : Q (.goto l) fs H) : blockQ id Q (.goto l) fs H := h
theorem blockQ_panic {id : Nat} {ch} (h : Q (.panic ch) fs H) : blockQ id Q (.panic ch) fs H := h
theorem thenQ_normal {K : Slots → List Chunk → Prop} (h : K fs H) : thenQ K Q .normal fs H := h
theorem thenQ_ret {K : Slots → List Chunk → Prop} (h : Q .ret fs H) : thenQ K Q .ret fs H := h
theorem thenQ_exit {K : Slots → List Chunk → Prop} {id : Nat} (h : Q (.exit id) fs H) : thenQ K Q (.exit id) fs H := h
theorem thenQ_goto {K : Slots → List Chunk → Prop} {l : Nat} (h : Q (.goto l) fs H) : thenQ K Q (.goto l) fs H := h
theorem thenQ_panic {K : Slots → List Chunk → Prop} {ch} (h : Q (.panic ch) fs H) : thenQ K Q (.panic ch) fs H := h

theorem tri_cond {c : Operand} {x y : Code} {t : Bool} (hc : ev fs c = some (.bool t)) (ht : t = true → Tri cx fs H x Q) (hf : t = false → Tri cx fs H y Q) : Tri cx fs H (.cond c x y) Q :=
  fun a w ha hw => wp_cond_split (ha.eval hc) (fun h => ht h a w ha hw) (fun h => hf h a w ha hw)

theorem tri_cond_true {c : Operand} {x y : Code} (hc : ev fs c = some (.bool true)) (h : Tri cx fs H x Q) : Tri cx fs H (.cond c x y) Q :=
  fun a w ha hw => wp_cond_true (ha.eval hc) (h a w ha hw)
theorem tri_cond_false {c : Operand} {x y : Code} (hc : ev fs c = some (.bool false)) (h : Tri cx fs H y Q) : Tri cx fs H (.cond c x y) Q :=
  fun a w ha hw => wp_cond_false (ha.eval hc) (h a w ha hw)

/-- A loop: its rounds' states are named by an index; a measure goes down. -/
theorem tri_loop {c : Code} {ι : Type} (F : ι → Slots) (HH : ι → List Chunk) (Pu : ι → Prop) (μ : ι → Nat) (i : ι) (hs : Sub fs (F i)) (hh : ∀ w, Sat cx H w → Sat cx (HH i) w) (hp : Pu i)
    (round : ∀ i, Pu i → Tri cx (F i) (HH i) c (thenQ (fun fs' H' => ∃ j, Sub fs' (F j) ∧ (∀ w, Sat cx H' w → Sat cx (HH j) w) ∧ Pu j ∧ μ j < μ i) Q)) : Tri cx fs H (.loop c) Q := by
  intro a w ha hw b k cs
  have key : ∀ n i a w, μ i = n → Pu i → Has cx.n cx.ds (F i) a → Sat cx (HH i) w →
      ∃ e a' w', lift cx Q e a' w' ∧ Arrives cx.P (lone (b.at a (.code c :: .inLoop c :: k)) cs w) b k cs e a' w' := by
    intro n
    induction n using Nat.strongRecOn with
    | _ n ih =>
      intro i a w hn hpi ha hw
      obtain ⟨e, a₁, w₁, ⟨fs', H', h1, h2, hq⟩, harr⟩ := round i hpi a w ha hw b (.inLoop c :: k) cs
      cases e with
      | normal =>
        obtain ⟨j, hsub, hheap, hpj, hlt⟩ := hq
        obtain ⟨e₂, a₂, w₂, hq₂, harr₂⟩ := ih (μ j) (by omega) j a₁ w₁ rfl hpj (h1.sub hsub) (hheap _ h2)
        exact ⟨e₂, a₂, w₂, hq₂, .of_steps (Steps.trans harr (.one step_inLoop)) harr₂⟩
      | exit id => exact ⟨_, a₁, w₁, ⟨fs', H', h1, h2, hq⟩, .pass (x := .inLoop c) rfl (fun _ _ => .inl (by simp)) harr⟩
      | goto l => exact ⟨_, a₁, w₁, ⟨fs', H', h1, h2, hq⟩, .pass (x := .inLoop c) rfl (fun _ _ => .inl (by simp)) harr⟩
      | ret => exact ⟨_, a₁, w₁, ⟨fs', H', h1, h2, hq⟩, .pass (x := .inLoop c) rfl (fun _ _ => .inl (by simp)) harr⟩
      | panic ch => exact ⟨_, a₁, w₁, ⟨fs', H', h1, h2, hq⟩, .pass (x := .inLoop c) rfl (fun _ _ => .inl (by simp)) harr⟩
      | outgrown => exact ⟨_, a₁, w₁, ⟨fs', H', h1, h2, hq⟩, .pass (x := .inLoop c) rfl (fun _ _ => .inl (by simp)) harr⟩
  obtain ⟨e, a', w', hq, harr⟩ := key _ i a w rfl hp (ha.sub hs) (hh w hw)
  exact ⟨e, a', w', hq, .of_steps (.one step_loop) harr⟩
end rules
end Go.WK
