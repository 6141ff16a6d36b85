/- The document's disk in memory: rows that point at rows of bytes, which nobody changes. Plain: no program in sight. -/
import Derived.Test.YtpnccaddbjbfhaaDisk2
namespace Go.WK
open Go.RowKit

/-! ### Bytes that are read alone -/
abbrev PE := Option Addr × Nat × List UInt8
/-- Rows of bytes, all of whose blocks lie in F. -/
def poolC (F : List Nat) (pool : List PE) : Chunk where
  fp k := k ∈ F
  holds w := (∀ k ∈ F, k < w.heap.size) ∧ ∀ p ∈ pool, Rd w p.1 (bytesV p.2.2) ∧ ∀ a, p.1 = some a → a.block ∈ F
  lt w k h hk := h.1 k hk
  stab w w' h hk := by
    refine ⟨fun k hF => ?_, fun p hp => ⟨fun j u hj => ?_, (h.2 p hp).2⟩⟩
    · have h1 := h.1 k hF
      rcases Nat.lt_or_ge k w'.heap.size with h2 | h2
      · exact h2
      · have h3 := hk k hF
        rw [Array.getElem?_eq_none h2, Array.getElem?_eq_getElem h1] at h3
        cases h3
    · obtain ⟨a, ha, hc⟩ := (h.2 p hp).1 j u hj
      exact ⟨a, ha, (World.cell?_of_block (hk _ (by rw [add_block]; exact (h.2 p hp).2 a ha))).trans hc⟩
theorem RdS.pool {cx : Cx} {H : List Chunk} {i : Nat} {F : List Nat} {pool : List PE} {A : Option Addr} {c : Nat} {b : List UInt8} (hn : Nth H i (poolC F pool)) (hp : (A, c, b) ∈ pool) : RdS cx H A (bytesV b) := fun _ hs =>
  ((hs.holds _ hn.mem).2 (A, c, b) hp).1
/-- A new row laid to them. -/
theorem Sat.pool {cx : Cx} {H : List Chunk} {w : World} {i n c : Nat} {A : Option Addr} {b : List UInt8} {F : List Nat} {pool : List PE} (h : Sat cx (row (.slice A n c) 5 1 n (bytesV b) :: H) w) (hn : Nth H i (poolC F pool)) : Sat cx (setH H i (poolC (blk A ++ F) ((A, c, b) :: pool))) w := by
  obtain ⟨l1, l2, rfl, h2⟩ := hn.split (poolC (blk A ++ F) ((A, c, b) :: pool))
  rw [h2]
  have ho : w.ownsRow 0 5 1 (.slice A n c) n (bytesV b) := h.holds _ List.mem_cons_self
  have hperm : (row (.slice A n c) 5 1 n (bytesV b) :: (l1 ++ poolC F pool :: l2)).Perm (row (.slice A n c) 5 1 n (bytesV b) :: poolC F pool :: (l1 ++ l2)) := List.Perm.cons _ List.perm_middle
  have hs := h.perm hperm
  refine Sat.perm (H := poolC (blk A ++ F) ((A, c, b) :: pool) :: (l1 ++ l2)) ?_ List.perm_middle.symm
  have hap := List.pairwise_cons.1 hs.apart
  have hap2 := List.pairwise_cons.1 hap.2
  have hold := hs.holds (poolC F pool) (by simp)
  have hA : ∀ k, k ∈ blk A → (row (.slice A n c) 5 1 n (bytesV b)).fp k := fun k hk => (ownBlock_blk A n c k).2 hk
  refine ⟨hs.chg, fun d hd => ?_, fun d hd k hk => ?_, .cons (fun d hd k hk hdk => ?_) hap2.2⟩
  · rcases List.mem_cons.1 hd with rfl | hd
    · refine ⟨fun k hk => ?_, fun p hp => ?_⟩
      · rcases List.mem_append.1 hk with hk | hk
        · exact h.lt List.mem_cons_self (hA k hk)
        · exact hold.1 k hk
      · rcases List.mem_cons.1 hp with rfl | hp
        · refine ⟨own_rd ho, fun a ha => ?_⟩
          simp only at ha
          subst ha
          exact List.mem_append_left _ (by simp [blk])
        · exact ⟨(hold.2 p hp).1, fun a ha => List.mem_append_right _ ((hold.2 p hp).2 a ha)⟩
    · exact hs.holds d (List.mem_cons_of_mem _ (List.mem_cons_of_mem _ hd))
  · rcases List.mem_cons.1 hd with rfl | hd
    · rcases List.mem_append.1 hk with hk | hk
      · exact hs.fresh _ List.mem_cons_self k (hA k hk)
      · exact hs.fresh (poolC F pool) (by simp) k hk
    · exact hs.fresh d (List.mem_cons_of_mem _ (List.mem_cons_of_mem _ hd)) k hk
  · rcases List.mem_append.1 hk with hk | hk
    · exact hap.1 d (List.mem_cons_of_mem _ hd) k (hA k hk) hdk
    · exact hap2.1 d hd k hk hdk

/-! ### The document's disk -/
structure Rk where
  Ak : Option Addr
  ck : Nat
  Ac : Option Addr
  cc : Nat
  kr : List (Option Addr × Nat)
  cr : List (Nat × Option Addr × Nat)
  F : List Nat
  pool : List PE
def refV (p : Option Addr × Nat) : List Value := [.slice p.1 512 p.2]
abbrev refsV (k : List (Option Addr × Nat)) : List Value := flatV refV k
def crefV (q : Nat × Option Addr × Nat) : List Value := [.int .i64 (q.1 : Int), .slice q.2.1 512 q.2.2]
abbrev crefsV (c : List (Nat × Option Addr × Nat)) : List Value := flatV crefV c
def rkC (g : Nat) (m : Rk) (d : Dk) : List Chunk :=
  [box g 55 [.slice m.Ak m.kr.length m.ck, .slice m.Ac m.cr.length m.cc, .int .i64 d.trip, .bool d.dark, .int .i64 d.r, .int .i64 d.w, .int .i64 d.s], row (.slice m.Ak m.kr.length m.ck) 32 1 m.kr.length (refsV m.kr), row (.slice m.Ac m.cr.length m.cc) 72 2 m.cr.length (crefsV m.cr), poolC m.F m.pool]
def rkF (g : Nat) (m : Rk) : List Nat := g :: (blk m.Ak ++ (blk m.Ac ++ m.F))
theorem rk_lend {g : Nat} {m : Rk} {d : Dk} : ∀ c ∈ rkC g m d, ∀ k, c.fp k → k ∈ rkF g m := fun c hc k hk => by
  simp only [rkC, List.mem_cons, List.not_mem_nil, or_false] at hc
  simp only [rkF, List.mem_cons, List.mem_append]
  rcases hc with rfl | rfl | rfl | rfl
  · exact .inl hk
  · exact .inr (.inl ((ownBlock_blk _ _ _ _).1 hk))
  · exact .inr (.inr (.inl ((ownBlock_blk _ _ _ _).1 hk)))
  · exact .inr (.inr (.inr hk))
theorem rk_lend' {g : Nat} {m : Rk} {d : Dk} : ∀ k ∈ rkF g m, ∃ c ∈ rkC g m d, c.fp k := fun k hk => by
  simp only [rkF, List.mem_cons, List.mem_append] at hk
  rcases hk with rfl | hk | hk | hk
  · exact ⟨_, List.mem_cons_self, rfl⟩
  · exact ⟨_, List.mem_cons_of_mem _ List.mem_cons_self, (ownBlock_blk _ _ _ _).2 hk⟩
  · exact ⟨_, List.mem_cons_of_mem _ (List.mem_cons_of_mem _ List.mem_cons_self), (ownBlock_blk _ _ _ _).2 hk⟩
  · exact ⟨_, List.mem_cons_of_mem _ (List.mem_cons_of_mem _ (List.mem_cons_of_mem _ List.mem_cons_self)), hk⟩
abbrev pd : Option Addr × Nat := (none, 0)
abbrev qd : Nat × Option Addr × Nat := (0, none, 0)
/-- The row of sectors says what it should; the row of writes. -/
def okK (kr : List (Option Addr × Nat)) (k : List (List UInt8)) (pool : List PE) : Prop := kr.length = k.length ∧ ∀ i, i < k.length → ((kr.getD i pd).1, (kr.getD i pd).2, k.getD i []) ∈ pool
def okC (cr : List (Nat × Option Addr × Nat)) (c : List (Nat × List UInt8)) (pool : List PE) : Prop := cr.length = c.length ∧ ∀ i, i < c.length → (cr.getD i qd).1 = (c.getD i (0, [])).1 ∧ ((cr.getD i qd).2.1, (cr.getD i qd).2.2, (c.getD i (0, [])).2) ∈ pool
def Rk.ok (m : Rk) (d : Dk) : Prop := okK m.kr d.kept m.pool ∧ okC m.cr d.cache m.pool
theorem getD_set {α : Type} (l : List α) (i j : Nat) (a d : α) (hi : i < l.length) : (l.set i a).getD j d = if i = j then a else l.getD j d := by
  by_cases h : i = j
  · subst h; simp [List.getD, hi]
  · simp [List.getD, h]
theorem getD_snoc {α : Type} (l : List α) (a d : α) (j : Nat) (hj : j < l.length + 1) : (l ++ [a]).getD j d = if j = l.length then a else l.getD j d := by
  by_cases h : j = l.length
  · subst h; simp [List.getD]
  · have : j < l.length := by omega
    simp [List.getD, h, List.getElem?_append_left this]
theorem okK_set {kr : List (Option Addr × Nat)} {k : List (List UInt8)} {pool : List PE} (h : okK kr k pool) {i : Nat} (hi : i < k.length) {A : Option Addr} {c : Nat} {b : List UInt8} (hp : (A, c, b) ∈ pool) : okK (kr.set i (A, c)) (k.set i b) pool := by
  refine ⟨by simp [h.1], fun j hj => ?_⟩
  rw [getD_set _ _ _ _ _ (by rw [h.1]; exact hi), getD_set _ _ _ _ _ hi]
  by_cases e : i = j
  · rw [if_pos e, if_pos e]; exact hp
  · rw [if_neg e, if_neg e]; exact h.2 j (by simpa using hj)
theorem okK_mono {kr : List (Option Addr × Nat)} {k : List (List UInt8)} {pool : List PE} (h : okK kr k pool) (p : PE) : okK kr k (p :: pool) := ⟨h.1, fun i hi => List.mem_cons_of_mem _ (h.2 i hi)⟩
theorem okC_mono {cr : List (Nat × Option Addr × Nat)} {c : List (Nat × List UInt8)} {pool : List PE} (h : okC cr c pool) (p : PE) : okC cr c (p :: pool) := ⟨h.1, fun i hi => ⟨(h.2 i hi).1, List.mem_cons_of_mem _ (h.2 i hi).2⟩⟩
theorem okC_snoc {cr : List (Nat × Option Addr × Nat)} {c : List (Nat × List UInt8)} {pool : List PE} (h : okC cr c pool) {k : Nat} {A : Option Addr} {cA : Nat} {b : List UInt8} (hp : (A, cA, b) ∈ pool) : okC (cr ++ [(k, A, cA)]) (c ++ [(k, b)]) pool := by
  refine ⟨by simp [h.1], fun j hj => ?_⟩
  have hj' : j < c.length + 1 := by simpa using hj
  rw [getD_snoc _ _ _ _ (by rw [h.1]; exact hj'), getD_snoc _ _ _ _ hj', h.1]
  by_cases e : j = c.length
  · rw [if_pos e, if_pos e]; exact ⟨rfl, hp⟩
  · rw [if_neg e, if_neg e]; exact h.2 j (by omega)
theorem okK_snoc {kr : List (Option Addr × Nat)} {k : List (List UInt8)} {pool : List PE} (h : okK kr k pool) {A : Option Addr} {c : Nat} {b : List UInt8} (hp : (A, c, b) ∈ pool) : okK (kr ++ [(A, c)]) (k ++ [b]) pool := by
  refine ⟨by simp [h.1], fun j hj => ?_⟩
  have hj' : j < k.length + 1 := by simpa using hj
  rw [getD_snoc _ _ _ _ (by rw [h.1]; exact hj'), getD_snoc _ _ _ _ hj', h.1]
  by_cases e : j = k.length
  · rw [if_pos e, if_pos e]; exact hp
  · rw [if_neg e, if_neg e]; exact h.2 j (by omega)
theorem refs_z (k : List (Option Addr × Nat)) : ∀ p ∈ k, (refV p).length = 1 := fun _ _ => rfl
theorem crefs_z (k : List (Nat × Option Addr × Nat)) : ∀ p ∈ k, (crefV p).length = 2 := fun _ _ => rfl
theorem refs_length (k : List (Option Addr × Nat)) : (refsV k).length = k.length * 1 := flatV_length (refs_z k)
theorem crefs_length (c : List (Nat × Option Addr × Nat)) : (crefsV c).length = c.length * 2 := flatV_length (crefs_z c)
theorem refs_get (k : List (Option Addr × Nat)) (i : Nat) (h : i < k.length) : (refsV k)[i * 1]? = some (.slice (k.getD i pd).1 512 (k.getD i pd).2) := by
  have h1 := flatV_at i pd (refs_z k) h
  have : ((flatV refV k).drop (i * 1))[0]? = some (.slice (k.getD i pd).1 512 (k.getD i pd).2) := by
    have h2 := congrArg (fun l => l[0]?) h1
    simp only [List.getElem?_take_of_lt (show 0 < 1 by decide)] at h2
    exact h2
  rw [List.getElem?_drop] at this
  simpa using this
theorem crefs_at (c : List (Nat × Option Addr × Nat)) (i : Nat) (h : i < c.length) : (crefsV c)[i * 2]? = some (.int .i64 ((c.getD i qd).1 : Int)) := by
  have h1 := flatV_at i qd (crefs_z c) h
  have : ((flatV crefV c).drop (i * 2))[0]? = some (.int .i64 ((c.getD i qd).1 : Int)) := by
    have h2 := congrArg (fun l => l[0]?) h1
    simp only [List.getElem?_take_of_lt (show 0 < 2 by decide)] at h2
    exact h2
  rw [List.getElem?_drop] at this
  simpa using this
theorem crefs_to (c : List (Nat × Option Addr × Nat)) (i : Nat) (h : i < c.length) : (crefsV c)[i * 2 + 1]? = some (.slice (c.getD i qd).2.1 512 (c.getD i qd).2.2) := by
  have h1 := flatV_at i qd (crefs_z c) h
  have : ((flatV crefV c).drop (i * 2))[1]? = some (.slice (c.getD i qd).2.1 512 (c.getD i qd).2.2) := by
    have h2 := congrArg (fun l => l[1]?) h1
    simp only [List.getElem?_take_of_lt (show 1 < 2 by decide)] at h2
    exact h2
  rw [List.getElem?_drop] at this
  simpa using this
theorem refs_set (k : List (Option Addr × Nat)) (i : Nat) (h : i < k.length) (A : Option Addr) (c : Nat) : (refsV k).set (i * 1) (.slice A 512 c) = refsV (k.set i (A, c)) := by
  have := flatV_set i (A, c) (refs_z k) rfl h
  exact this
theorem refs_one (k : List (Option Addr × Nat)) : ∀ u ∈ refsV k, u.oneCell' = true := flatV_one (fun a _ u hu => by
  obtain rfl := List.mem_singleton.1 hu
  rfl)
theorem okK_len {m : Rk} {d : Dk} (h : m.ok d) : m.kr.length = d.kept.length := h.1.1
theorem okC_len {m : Rk} {d : Dk} (h : m.ok d) : m.cr.length = d.cache.length := h.2.1
def Rk.nil : Rk := ⟨none, 0, none, 0, [], [], [], []⟩
theorem rk_start {cx : Cx} {w : World} {g : Nat} {d : Dk} (h : Sat cx [box g 55 [.slice none 0 0, .slice none 0 0, .int .i64 d.trip, .bool d.dark, .int .i64 d.r, .int .i64 d.w, .int .i64 d.s]] w) : Sat cx (rkC g Rk.nil d) w := by
  have h1 : Sat cx (poolC [] [] :: [box g 55 [.slice none 0 0, .slice none 0 0, .int .i64 d.trip, .bool d.dark, .int .i64 d.r, .int .i64 d.w, .int .i64 d.s]]) w := h.push (Chg.refl _ _) _ ⟨by simp, by simp⟩ (fun k hk => by cases hk)
  have h2 := (h1.nilRow 72 2).nilRow 32 1
  have h3 := h2.perm (List.perm_append_comm (l₁ := [_, _, _]) (l₂ := [_]))
  exact h3
theorem rk_snocK {g : Nat} {m : Rk} {d : Dk} {A : Option Addr} {c : Nat} (p : Option Addr × Nat) : rkC g { m with Ak := A, ck := c, kr := m.kr ++ [p] } d =
    [box g 55 [.slice A (m.kr.length + 1) c, .slice m.Ac m.cr.length m.cc, .int .i64 d.trip, .bool d.dark, .int .i64 d.r, .int .i64 d.w, .int .i64 d.s], row (.slice A (m.kr.length + 1) c) 32 1 (m.kr.length + 1) (refsV m.kr ++ refV p), row (.slice m.Ac m.cr.length m.cc) 72 2 m.cr.length (crefsV m.cr), poolC m.F m.pool] := by
  simp only [rkC, List.length_append, List.length_singleton, refsV, flatV_append]
  simp [flatV]
theorem rk_snocC {g : Nat} {m : Rk} {d : Dk} {A : Option Addr} {c : Nat} (p : Nat × Option Addr × Nat) : rkC g { m with Ac := A, cc := c, cr := m.cr ++ [p] } d =
    [box g 55 [.slice m.Ak m.kr.length m.ck, .slice A (m.cr.length + 1) c, .int .i64 d.trip, .bool d.dark, .int .i64 d.r, .int .i64 d.w, .int .i64 d.s], row (.slice m.Ak m.kr.length m.ck) 32 1 m.kr.length (refsV m.kr), row (.slice A (m.cr.length + 1) c) 72 2 (m.cr.length + 1) (crefsV m.cr ++ crefV p), poolC m.F m.pool] := by
  simp only [rkC, List.length_append, List.length_singleton, crefsV, flatV_append]
  simp [flatV]
theorem rk_set {g : Nat} {m : Rk} {d : Dk} (i : Nat) (A : Option Addr) (c : Nat) (hi : i < m.kr.length) : rkC g { m with kr := m.kr.set i (A, c) } d =
    [box g 55 [.slice m.Ak m.kr.length m.ck, .slice m.Ac m.cr.length m.cc, .int .i64 d.trip, .bool d.dark, .int .i64 d.r, .int .i64 d.w, .int .i64 d.s], row (.slice m.Ak m.kr.length m.ck) 32 1 m.kr.length ((refsV m.kr).set (i * 1) (.slice A 512 c)), row (.slice m.Ac m.cr.length m.cc) 72 2 m.cr.length (crefsV m.cr), poolC m.F m.pool] := by
  simp only [rkC, List.length_set]
  rw [refs_set m.kr i hi]
theorem Sat.toNil {cx : Cx} {H : List Chunk} {w : World} {i e s n : Nat} {v : Value} {xs : List Value} (h : Sat cx H w) (hn : Nth H i (row v e s n xs)) : Sat cx (setH H i (row (.slice none 0 0) e s 0 [])) w :=
  h.change hn _ ⟨by simp, .inl ⟨rfl, rfl⟩⟩ rfl rfl rfl (Nat.le_refl _) (fun _ _ _ => rfl) (fun k hk => by cases hk)
theorem okK_nil : okK [] (List.replicate 0 zsec) [] := ⟨rfl, fun i hi => by simp at hi⟩
theorem okC_nil (pool : List PE) : okC [] [] pool := ⟨rfl, fun i hi => by simp at hi⟩
theorem bytes_zeros : (madeCells (Value.cells (.int .u8 0)) (512 * 1)).toList = bytesV zsec := bytesV_zeros 512
end Go.WK
