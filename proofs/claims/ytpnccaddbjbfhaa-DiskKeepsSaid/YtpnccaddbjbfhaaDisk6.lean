/- What was written on a disk since its last sync, and what a cut leaves of it; rows of rows in memory. Plain: no program in sight. -/
import Derived.Test.YtpnccaddbjbfhaaDisk5
namespace Go.WK
open Go.RowKit

section ops
variable {m : Bool} {cx : Cx} {fs : Slots} {H : List Chunk} {Q : Post} {ops : Array Oper} {rest : List Oper} {g : Option (Nat × Bool)} {ty : TypeId} {pos : String} {af : Array Edge}
/-- An operation that is not wanted. -/
theorem o_unw {d : Nat} {op : Op} (hw : wantS ops fs g = some false) (hd : Nat.blt d cx.n = true) (k : TriX m cx ops ((d, undef) :: fs) H rest Q) : TriX m cx ops fs H (⟨some d, op, ty, pos, af, g⟩ :: rest) Q := by
  cases m with
  | false =>
    intro a w ha hs
    unfold wpList
    rw [if_neg (by rw [wantS_spec ha hw _ rfl]; simp)]
    exact k _ _ (ha.put hd undef) hs
  | true =>
    intro a ha
    unfold wpFix
    rw [if_neg (by rw [wantS_spec ha hw _ rfl]; simp)]
    exact k _ (ha.put hd undef)
theorem o_eqlIF {d : Nat} {x y : Operand} {t yt : TypeId} {ki : IntKind} {p q : Int} (h : p ≠ q) (hok : okS cx.n ops fs d g = true) (hx : ev fs x = some (.int ki p)) (hy : ev fs y = some (.int ki q)) (k : TriX m cx ops ((d, .bool false) :: fs) H rest Q) :
    TriX m cx ops fs H (⟨some d, .binOp .eql t x y yt, ty, pos, af, g⟩ :: rest) Q := o_eqlI hok hx hy (by rw [decide_eq_false h]; exact k)
theorem o_gtrIT {d : Nat} {x y : Operand} {t yt : TypeId} {ki : IntKind} {p q : Int} (h : q < p) (hok : okS cx.n ops fs d g = true) (hx : ev fs x = some (.int ki p)) (hy : ev fs y = some (.int ki q)) (k : TriX m cx ops ((d, .bool true) :: fs) H rest Q) :
    TriX m cx ops fs H (⟨some d, .binOp .gtr t x y yt, ty, pos, af, g⟩ :: rest) Q := o_gtr hok hx hy (by rw [decide_eq_true h]; exact k)
theorem o_gtrIF {d : Nat} {x y : Operand} {t yt : TypeId} {ki : IntKind} {p q : Int} (h : ¬ q < p) (hok : okS cx.n ops fs d g = true) (hx : ev fs x = some (.int ki p)) (hy : ev fs y = some (.int ki q)) (k : TriX m cx ops ((d, .bool false) :: fs) H rest Q) :
    TriX m cx ops fs H (⟨some d, .binOp .gtr t x y yt, ty, pos, af, g⟩ :: rest) Q := o_gtr hok hx hy (by rw [decide_eq_false h]; exact k)
end ops
theorem Sat.nilPool {cx : Cx} {H : List Chunk} {w : World} (h : Sat cx H w) : Sat cx (poolC [] [] :: H) w := h.push (Chg.refl _ _) _ ⟨by simp, by simp⟩ (fun k hk => by cases hk)

/-- What was written to sector k since the last sync. -/
def sinceC : List (Nat × List UInt8) → Nat → List (List UInt8)
  | [], _ => []
  | p :: c, k => if p.1 = k then p.2 :: sinceC c k else sinceC c k
def Dk.since (d : Dk) (k : Nat) : List (List UInt8) := sinceC d.cache k
theorem sinceC_append (c e : List (Nat × List UInt8)) (k : Nat) : sinceC (c ++ e) k = sinceC c k ++ sinceC e k := by
  induction c with
  | nil => rfl
  | cons p c ih => simp only [List.cons_append, sinceC, ih]; split <;> rfl
theorem since_snoc (c : List (Nat × List UInt8)) (i : Nat) (b : List UInt8) (k : Nat) : sinceC (c ++ [(i, b)]) k = if i = k then sinceC c k ++ [b] else sinceC c k := by
  rw [sinceC_append]
  by_cases h : i = k <;> simp [sinceC, h]
theorem since_len {c : List (Nat × List UInt8)} (h : ∀ p ∈ c, p.2.length = 512) (k : Nat) : (∀ s ∈ sinceC c k, s.length = 512) ∧ (sinceC c k).length ≤ c.length := by
  induction c with
  | nil => exact ⟨fun s hs => by simp [sinceC] at hs, Nat.le_refl _⟩
  | cons p c ih =>
    obtain ⟨h1, h2⟩ := ih (fun q hq => h q (List.mem_cons_of_mem _ hq))
    simp only [sinceC]
    split
    · refine ⟨fun s hs => ?_, by simp; omega⟩
      rcases List.mem_cons.1 hs with rfl | hs
      · exact h p (by simp)
      · exact h1 s hs
    · exact ⟨h1, by simp; omega⟩
/-- What lies there when all is laid: the last of what was written, or what was there. -/
theorem lay_get : ∀ (c : List (Nat × List UInt8)) (k : List (List UInt8)) (i : Nat), i < k.length → (lay k c).getD i [] = (sinceC c i).getLastD (k.getD i [])
  | [], k, i, _ => rfl
  | p :: c, k, i, h => by
    simp only [lay, sinceC]
    rw [lay_get c _ i (by simpa using h)]
    by_cases hp : p.1 = i
    · subst hp
      rw [if_pos rfl, getD_set _ _ _ _ _ h, if_pos rfl]
      cases sinceC c p.1 <;> simp [List.getLastD]
    · rw [if_neg hp]
      have : (k.set p.1 p.2).getD i [] = k.getD i [] := by simp [List.getD, List.getElem?_set_ne hp]
      rw [this]
/-- .. when some is. -/
theorem layK_get : ∀ (c : List (Nat × List UInt8)) (k : List (List UInt8)) (keep : List Bool) (i : Nat), i < k.length → (layK k c keep).getD i [] = k.getD i [] ∨ (layK k c keep).getD i [] ∈ sinceC c i
  | [], k, keep, i, _ => .inl rfl
  | p :: c, k, keep, i, h => by
    simp only [layK, sinceC]
    have key : ∀ k' : List (List UInt8), k'.length = k.length → (layK k' c keep.tail).getD i [] = k'.getD i [] ∨ (layK k' c keep.tail).getD i [] ∈ sinceC c i := fun k' hk => layK_get c k' keep.tail i (by omega)
    by_cases hk : keep.headD false = true
    · rw [if_pos hk]
      rcases key (k.set p.1 p.2) (by simp) with h1 | h1
      · by_cases hp : p.1 = i
        · subst hp
          rw [if_pos rfl]
          right
          rw [h1, getD_set _ _ _ _ _ h, if_pos rfl]
          exact List.mem_cons_self
        · rw [if_neg hp]
          left
          rw [h1]
          simp [List.getD, List.getElem?_set_ne hp]
      · right
        split
        · exact List.mem_cons_of_mem _ h1
        · exact h1
    · rw [if_neg hk]
      rcases key k rfl with h1 | h1
      · exact .inl h1
      · right
        split
        · exact List.mem_cons_of_mem _ h1
        · exact h1
/-- .. when each is kept: as all laid. -/
theorem layK_all_kept : ∀ (c : List (Nat × List UInt8)) (k : List (List UInt8)) (keep : List Bool), (∀ j, j < c.length → keep.getD j false = true) → layK k c keep = lay k c
  | [], k, keep, _ => rfl
  | p :: c, k, keep, h => by
    have h0 := h 0 (by simp)
    have hh : keep.headD false = true := by rw [List.headD_eq_head?_getD]; simpa [List.getD, List.head?_eq_getElem?] using h0
    simp only [layK, lay]
    rw [if_pos hh]
    refine layK_all_kept c _ keep.tail (fun j hj => ?_)
    have := h (j + 1) (by simp; omega)
    simpa [List.getD, List.getElem?_tail] using this

/-! ### Rows of rows -/
structure Rw where
  A : Option Addr
  c : Nat
  s : List (Option Addr × Nat)
abbrev Rw.nil : Rw := ⟨none, 0, []⟩
def Rw.val (r : Rw) : Value := .slice r.A r.s.length r.c
def Rw.chunk (r : Rw) : Chunk := row (.slice r.A r.s.length r.c) 32 1 r.s.length (refsV r.s)
def rowsC (L : List Rw) : List Chunk := L.map Rw.chunk
def sinceV (L : List Rw) : List Value := L.map Rw.val
theorem sinceV_length (L : List Rw) : (sinceV L).length = L.length := by simp [sinceV]
theorem nth_rows : ∀ (L : List Rw) (k : Nat), k < L.length → Nth (rowsC L) k (L.getD k Rw.nil).chunk
  | r :: L, 0, _ => Nth.z
  | r :: L, k + 1, h => Nth.s (nth_rows L k (by simpa using h))
theorem set_rows : ∀ (L : List Rw) (k : Nat) (r : Rw), k < L.length → setH (rowsC L) k r.chunk = rowsC (L.set k r)
  | x :: L, 0, r, _ => rfl
  | x :: L, k + 1, r, h => by
    show x.chunk :: setH (rowsC L) k r.chunk = x.chunk :: rowsC (L.set k r)
    rw [set_rows L k r (by simpa using h)]
theorem sinceV_get (L : List Rw) (k : Nat) (h : k < L.length) : (sinceV L)[k * 1]? = some (.slice (L.getD k Rw.nil).A (L.getD k Rw.nil).s.length (L.getD k Rw.nil).c) := by
  simp [sinceV, List.getD, h, Rw.val]
theorem sinceV_set (L : List Rw) (k : Nat) (r : Rw) : (sinceV L).set (k * 1) r.val = sinceV (L.set k r) := by
  simp [sinceV, List.map_set]

theorem Sat.nilRows {cx : Cx} {H : List Chunk} {w : World} (h : Sat cx H w) : Sat cx (H ++ rowsC (List.replicate 4 Rw.nil)) w :=
  ((((h.nilRow 32 1).nilRow 32 1).nilRow 32 1).nilRow 32 1).perm (List.perm_append_comm (l₁ := [_, _, _, _]) (l₂ := H))
theorem chunk_snoc (A : Option Addr) (c : Nat) (s : List (Option Addr × Nat)) (p : Option Addr × Nat) : Rw.chunk ⟨A, c, s ++ [p]⟩ = row (.slice A (s.length + 1) c) 32 1 (s.length + 1) (refsV s ++ refV p) := by
  simp only [Rw.chunk, List.length_append, List.length_singleton, refsV, flatV_append]
  simp [flatV]
theorem val_snoc (A : Option Addr) (c : Nat) (s : List (Option Addr × Nat)) (p : Option Addr × Nat) : Rw.val ⟨A, c, s ++ [p]⟩ = .slice A (s.length + 1) c := by simp [Rw.val]
theorem refs_fill (kr : List (Option Addr × Nat)) (i : Nat) (h : kr.length = i) (h4 : i < 4) (A : Option Addr) (c : Nat) : (refsV kr ++ List.replicate (4 - i) (Value.slice none 0 0)).set (i * 1) (.slice A 512 c) = refsV (kr ++ [(A, c)]) ++ List.replicate (4 - (i + 1)) (Value.slice none 0 0) := by
  have hl := refs_length kr
  rw [List.set_append_right _ _ (by omega), show i * 1 - (refsV kr).length = 0 by omega, show 4 - i = (4 - (i + 1)) + 1 by omega, List.replicate_succ, List.set_cons_zero, refsV, refsV, flatV_append, List.append_assoc]
  rfl
theorem fill_length (kr : List (Option Addr × Nat)) (i : Nat) (h : kr.length = i) (h4 : i ≤ 4) : (refsV kr ++ List.replicate (4 - i) (Value.slice none 0 0)).length = 4 := by
  rw [List.length_append, refs_length, List.length_replicate]; omega
theorem fill_end (kr : List (Option Addr × Nat)) : refsV kr ++ List.replicate (4 - 4) (Value.slice none 0 0) = refsV kr := by simp

/-! ### What the law keeps of a disk -/
structure Kp (d : Dk) (kr : List (Option Addr × Nat)) (L : List Rw) (pool : List PE) : Prop where
  good : d.good
  len : d.kept.length = 4
  calm : d.calm
  kr : okK kr d.kept pool
  rows : L.length = 4
  since : ∀ k, k < 4 → okK (L.getD k Rw.nil).s (d.since k) pool
theorem Kp.mono {d : Dk} {kr : List (Option Addr × Nat)} {L : List Rw} {pool : List PE} (h : Kp d kr L pool) (p : PE) : Kp d kr L (p :: pool) := ⟨h.good, h.len, h.calm, okK_mono h.kr p, h.rows, fun k hk => okK_mono (h.since k hk) p⟩
theorem Kp.ne {d : Dk} {kr : List (Option Addr × Nat)} {L : List Rw} {pool : List PE} (h : Kp d kr L pool) : d.kept ≠ [] := ne_nil h.len (by omega)
theorem kp_start (kr : List (Option Addr × Nat)) (pool : List PE) (h : okK kr (List.replicate 4 zsec) pool) : Kp (Dk.new 4) kr (List.replicate 4 Rw.nil) pool :=
  ⟨Dk.new_good 4 (by omega), List.length_replicate, calm_new 4, h, rfl, fun k hk => by
    have : (List.replicate 4 Rw.nil).getD k Rw.nil = Rw.nil := by
      match k, hk with
      | 0, _ => rfl
      | 1, _ => rfl
      | 2, _ => rfl
      | 3, _ => rfl
    rw [this]
    exact ⟨rfl, fun i hi => by cases hi⟩⟩
/-- A write that is done. -/
theorem calm_write {d : Dk} (h : d.calm) (at_ : Int) (b : List UInt8) (h0 : (d.write at_ b).1 = 0) : ∃ k : Nat, at_ = (k : Int) ∧ k < d.kept.length ∧ b.length = 512 ∧ (d.write at_ b).2 = { d with w := inc d.w, cache := d.cache ++ [(k, b)] } := by
  rw [Dk.write] at h0 ⊢
  split at h0
  · cases h0
  · rename_i ho
    rw [if_neg ho]
    unfold Dk.out at ho
    split at h0
    · cases h0
    · rename_i hb
      rw [if_neg hb]
      rw [if_pos (by rw [calm_goes h])]
      obtain ⟨k, rfl⟩ := Int.eq_ofNat_of_zero_le (show 0 ≤ at_ by omega)
      exact ⟨k, rfl, by omega, Decidable.not_not.1 hb, by rw [calm_goes h]; rfl⟩
theorem calm_nowrite {d : Dk} (h : d.calm) (at_ : Int) (b : List UInt8) (h0 : (d.write at_ b).1 ≠ 0) : (d.write at_ b).2 = d := by
  rw [Dk.write] at h0 ⊢
  split
  · rfl
  · rename_i ho
    rw [if_neg ho] at h0
    split
    · rfl
    · rename_i hb
      rw [if_neg hb, if_pos (by rw [calm_goes h])] at h0
      exact absurd rfl h0
theorem kp_write {d : Dk} {kr : List (Option Addr × Nat)} {L : List Rw} {pool : List PE} (h : Kp d kr L pool) {k : Nat} (hk : k < 4) {b : List UInt8} (hb : b.length = 512) {A A2 : Option Addr} {c c2 : Nat} (w : Int) :
    Kp { d with w := w, cache := d.cache ++ [(k, b)] } kr (L.set k ⟨A2, c2, (L.getD k Rw.nil).s ++ [(A, c)]⟩) ((A, c, b) :: pool) := by
  refine ⟨⟨h.good.1, fun p hp => ?_, h.good.2.2⟩, h.len, h.calm, okK_mono h.kr _, by simp [h.rows], fun i hi => ?_⟩
  · rcases List.mem_append.1 hp with hp | hp
    · exact h.good.2.1 p hp
    · obtain rfl := List.mem_singleton.1 hp
      exact ⟨by show k < d.kept.length; rw [h.len]; exact hk, hb⟩
  · rw [getD_set _ _ _ _ _ (by rw [h.rows]; exact hk)]
    show okK _ (sinceC (d.cache ++ [(k, b)]) i) _
    rw [since_snoc]
    by_cases e : k = i
    · subst e
      rw [if_pos rfl, if_pos rfl]
      exact okK_snoc (okK_mono (h.since k hk) _) List.mem_cons_self
    · rw [if_neg e, if_neg e]
      exact okK_mono (h.since i hi) _
/-- Half way through a sync: the first k sectors are seen to. -/
structure KpS (d : Dk) (k : Nat) (kr : List (Option Addr × Nat)) (L : List Rw) (pool : List PE) : Prop where
  le : k ≤ 4
  klen : kr.length = 4
  rows : L.length = 4
  kr : ∀ i, i < 4 → ((kr.getD i pd).1, (kr.getD i pd).2, if i < k then (d.since i).getLastD (d.kept.getD i []) else d.kept.getD i []) ∈ pool
  done : ∀ i, i < k → L.getD i Rw.nil = Rw.nil
  since : ∀ i, k ≤ i → i < 4 → okK (L.getD i Rw.nil).s (d.since i) pool
theorem kps_start {d : Dk} {kr : List (Option Addr × Nat)} {L : List Rw} {pool : List PE} (h : Kp d kr L pool) : KpS d 0 kr L pool :=
  ⟨Nat.zero_le _, by rw [h.kr.1, h.len], h.rows, fun i hi => by rw [if_neg (by omega)]; exact h.kr.2 i (by rw [h.len]; exact hi), fun i hi => by omega, fun i _ hi => h.since i hi⟩
theorem getLastD_get {α : Type} (l : List α) (d e : α) (h : 0 < l.length) : l.getLastD d = l.getD (l.length - 1) e := by
  rw [List.getLastD_eq_getLast?, List.getLast?_eq_getElem?]
  simp [List.getD, show l.length - 1 < l.length by omega]
theorem kps_step {d : Dk} {k : Nat} {kr : List (Option Addr × Nat)} {L : List Rw} {pool : List PE} (h : KpS d k kr L pool) (hk : k < 4) :
    KpS d (k + 1) (if 0 < (L.getD k Rw.nil).s.length then kr.set k ((L.getD k Rw.nil).s.getD ((L.getD k Rw.nil).s.length - 1) pd) else kr) (L.set k Rw.nil) pool := by
  have hs := h.since k (Nat.le_refl _) hk
  refine ⟨hk, by split <;> simp [h.klen], by simp [h.rows], fun i hi => ?_, fun i hi => ?_, fun i hi hi4 => ?_⟩
  · by_cases e : k = i
    · subst e
      rw [if_pos (Nat.lt_succ_self k)]
      by_cases hp : 0 < (L.getD k Rw.nil).s.length
      · rw [if_pos hp, getD_set _ _ _ _ _ (by rw [h.klen]; exact hk), if_pos rfl]
        have hp' : 0 < (d.since k).length := by rw [← hs.1]; exact hp
        rw [getLastD_get _ _ [] hp', ← hs.1]
        exact hs.2 _ (by have := hs.1; omega)
      · rw [if_neg hp]
        have hp' : d.since k = [] := List.eq_nil_of_length_eq_zero (by rw [← hs.1]; omega)
        rw [hp']
        have := h.kr k hk
        rw [if_neg (by omega)] at this
        exact this
    · have e1 : (if 0 < (L.getD k Rw.nil).s.length then kr.set k ((L.getD k Rw.nil).s.getD ((L.getD k Rw.nil).s.length - 1) pd) else kr).getD i pd = kr.getD i pd := by
        split
        · rw [getD_set _ _ _ _ _ (by rw [h.klen]; exact hk), if_neg e]
        · rfl
      rw [e1]
      have := h.kr i hi
      by_cases h2 : i < k
      · rw [if_pos h2] at this
        rw [if_pos (by omega)]
        exact this
      · rw [if_neg h2] at this
        rw [if_neg (by omega)]
        exact this
  · rw [getD_set _ _ _ _ _ (by rw [h.rows]; exact hk)]
    split
    · rfl
    · exact h.done i (by omega)
  · rw [getD_set _ _ _ _ _ (by rw [h.rows]; exact hk), if_neg (by omega)]
    exact h.since i (by omega) hi4
theorem calm_sync {d : Dk} (h : d.calm) (hne : d.kept ≠ []) : d.syncI = (0, { d with s := inc d.s, kept := lay d.kept d.cache, cache := [] }) := by
  rw [Dk.syncI, if_neg hne, Dk.sync, if_pos (by rw [calm_goes h]), calm_goes h]
theorem kps_end {d : Dk} {kr0 kr : List (Option Addr × Nat)} {L0 L : List Rw} {pool : List PE} (h0 : Kp d kr0 L0 pool) (h : KpS d 4 kr L pool) (s : Int) : Kp { d with s := s, kept := lay d.kept d.cache, cache := [] } kr L pool := by
  refine ⟨⟨lay_all _ _ h0.good.1 (fun p hp => (h0.good.2.1 p hp).2), fun p hp => (by cases hp), by show (lay _ _).length ≤ _; rw [lay_length]; exact h0.good.2.2⟩, by show (lay _ _).length = 4; rw [lay_length]; exact h0.len, h0.calm, ⟨by show kr.length = (lay _ _).length; rw [lay_length, h.klen, h0.len], fun i hi => ?_⟩, h.rows, fun k hk => ?_⟩
  · have hi4 : i < 4 := by
      have : i < (lay d.kept d.cache).length := hi
      rw [lay_length, h0.len] at this
      exact this
    have := h.kr i hi4
    rw [if_pos hi4] at this
    show (_, _, (lay d.kept d.cache).getD i []) ∈ pool
    rw [lay_get _ _ _ (by rw [h0.len]; exact hi4)]
    exact this
  · rw [h.done k hk]
    exact ⟨rfl, fun i hi => by cases hi⟩
theorem kp_none {d : Dk} {kr : List (Option Addr × Nat)} {L : List Rw} {pool : List PE} (h : Kp d kr L pool) {k : Nat} (hk : k < 4) : (L.getD k Rw.nil).s.length = (d.since k).length := (h.since k hk).1

/-! ### The end -/
/-- All that was kept of a cut. -/
def allK (keep : List Bool) (n : Nat) : Bool := (List.range n).all (fun j => keep.getD j false)
theorem allK_snoc (keep : List Bool) (n : Nat) : allK keep (n + 1) = (allK keep n && keep.getD n false) := by
  simp [allK, List.range_succ]
/-- What is read behind the cut. -/
structure KpE (d e : Dk) (keep : List Bool) : Prop where
  good : e.good
  calm : e.calm
  kept : e.kept = layK d.kept d.cache keep
  cache : e.cache = []
theorem kpe_start {d : Dk} {kr : List (Option Addr × Nat)} {L : List Rw} {pool : List PE} (h : Kp d kr L pool) (keep : List Bool) : KpE d (d.cutI keep) keep := by
  rw [Dk.cutI, if_neg h.ne]
  exact ⟨Dk.cut_good h.good keep, ⟨rfl, rfl⟩, rfl, rfl⟩
theorem kpe_read {d e : Dk} {keep : List Bool} (h : KpE d e keep) (hl : d.kept.length = 4) {k : Nat} (hk : k < 4) : e.read (k : Int) = ((layK d.kept d.cache keep).getD k [], 0, { e with r := inc e.r }) ∧ KpE d { e with r := inc e.r } keep := by
  have hlen : e.kept.length = 4 := by rw [h.kept, layK_length, hl]
  have ho : ¬ e.out (k : Int) := by unfold Dk.out; omega
  refine ⟨?_, ⟨h.good, h.calm, h.kept, h.cache⟩⟩
  rw [Dk.read, if_neg ho, if_pos (by rw [calm_goes h.calm]), calm_goes h.calm]
  simp only [Int.toNat_natCast, Dk.seen, h.cache, seenF, h.kept]
/-- It is what it was, or one of those. -/
theorem kpe_in {d : Dk} (hl : d.kept.length = 4) (keep : List Bool) {k : Nat} (hk : k < 4) : (decide ((layK d.kept d.cache keep).getD k [] = d.kept.getD k []) || (d.since k).any (fun s => decide ((layK d.kept d.cache keep).getD k [] = s))) = true := by
  rcases layK_get d.cache d.kept keep k (by omega) with h | h
  · rw [decide_eq_true h]; rfl
  · have : (d.since k).any (fun s => decide ((layK d.kept d.cache keep).getD k [] = s)) = true := by
      rw [List.any_eq_true]
      exact ⟨_, h, by simp⟩
    rw [this, Bool.or_true]
theorem kpe_empty {d : Dk} (hl : d.kept.length = 4) (keep : List Bool) {k : Nat} (hk : k < 4) (h0 : d.since k = []) : (layK d.kept d.cache keep).getD k [] = d.kept.getD k [] := by
  rcases layK_get d.cache d.kept keep k (by omega) with h | h
  · exact h
  · have h1 : sinceC d.cache k = [] := h0
    rw [h1] at h
    cases h
theorem kpe_all {d : Dk} (hl : d.kept.length = 4) {keep : List Bool} {k : Nat} (hk : k < 4) (ha : allK keep d.cache.length = true) (h0 : 0 < (d.since k).length) : (layK d.kept d.cache keep).getD k [] = (d.since k).getD ((d.since k).length - 1) [] := by
  have h1 : ∀ j, j < d.cache.length → keep.getD j false = true := fun j hj => by
    have := List.all_eq_true.1 ha j (List.mem_range.2 hj)
    exact this
  rw [layK_all_kept _ _ _ h1, lay_get _ _ _ (by omega)]
  exact getLastD_get _ _ _ h0
end Go.WK
