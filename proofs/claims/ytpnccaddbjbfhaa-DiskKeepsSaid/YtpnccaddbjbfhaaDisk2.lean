/- Disks: their state, and what is done with it; how one lies in memory. Plain: no program in sight. -/
import Derived.Test.YtpnccaddbjbfhaaDisk1
namespace Go.WK
open Go.RowKit

theorem Sat.shrink {cx : Cx} {H : List Chunk} {w : World} {i e s n c : Nat} {A : Option Addr} {xs : List Value} (h : Sat cx H w) (hn : Nth H i (row (.slice A n c) e s n xs)) : Sat cx (setH H i (row (.slice A 0 c) e s 0 [])) w := by
  have ho : w.ownsRow 0 e s (.slice A n c) n xs := h.holds _ hn.mem
  refine h.change hn _ ?_ rfl rfl rfl (Nat.le_refl _) (fun _ _ _ => rfl) (fun k hk => .inl ?_)
  · refine ⟨by simp, ?_⟩
    rcases ho.2 with ⟨h3, h4⟩ | ⟨g, cap, cur, hv, hg, hh, hnc, hcm, hcs, _⟩
    · injection h3 with h5 h6 h7
      exact .inl ⟨by rw [h5, h7], rfl⟩
    · injection hv with h5 h6 h7
      exact .inr ⟨g, cap, cur, by rw [h5, h7], hg, hh, Nat.zero_le _, hcm, hcs, by simp⟩
  · cases A with
    | none => cases hk
    | some a => exact hk
/-- A box as a row of cells. -/
theorem Sat.unbox {cx : Cx} {H : List Chunk} {w : World} {i b t : Nat} {cs : List Value} (h : Sat cx H w) (hn : Nth H i (box b t cs)) (hm : cs.length ≤ maxLen) : Sat cx (setH H i (row (.slice (some ⟨b, 0, none⟩) cs.length cs.length) t 1 cs.length cs)) w := by
  have hb : w.heap[b]? = some (.cells cs.toArray t (0, 0)) := h.holds _ hn.mem
  refine h.change hn _ ⟨by simp, .inr ⟨b, cs.length, cs.toArray, rfl, Nat.zero_le _, hb, Nat.le_refl _, hm, by simp, by simp⟩⟩ rfl rfl rfl (Nat.le_refl _) (fun _ _ _ => rfl) (fun k hk => .inl ?_)
  have hk' : (Value.slice (some ⟨b, 0, none⟩) cs.length cs.length).ownBlock = some k := hk
  simp only [Value.ownBlock, Option.some.injEq] at hk'
  exact hk'.symm

theorem built2 {P : Program} {t : TypeId} {f0 f1 : Field} {z v0 : Value} {s : Nat} (hi : (P.info? t).map (·.zero) = some (some z)) (hu : P.underlying t = some (.struct #[f0, f1])) (h0 : szB P f0.type = some 1) (o0 : f0.offset = 0) (h1 : szB P f1.type = some s) (o1 : f1.offset = 1) (hz : z.cells.size = 1 + s)
    (c0 : v0.cells = #[v0]) {v1 : Value} {cs : List Value} (hv : v1.cells = cs.toArray) (hl : cs.length = s) : P.built t [(0, v0), (1, v1)] = some (v0 :: cs).toArray := by
  obtain ⟨it, hit, hz0⟩ := Option.map_eq_some_iff.1 hi
  unfold szB at h0 h1
  obtain ⟨i0, e0, s0⟩ := Option.map_eq_some_iff.1 h0
  obtain ⟨i1, e1, s1⟩ := Option.map_eq_some_iff.1 h1
  have hf := foldl_set cs 1 0 (z.cells.setIfInBounds 0 v0) (by simp; omega)
  simp only [Nat.add_zero] at hf
  have hg : (cs.toArray.zipIdx.foldl (fun cs (c, j) => cs.setIfInBounds (1 + j) c) (z.cells.setIfInBounds 0 v0)) = (v0 :: cs).toArray := by
    apply Array.toList_inj.1
    rw [← Array.foldl_toList, Array.toList_zipIdx]
    simp only
    rw [hf]
    obtain ⟨x, r, hx⟩ : ∃ x r, z.cells.toList = x :: r := by
      cases hzl : z.cells.toList with
      | nil => have h9 : z.cells.toList.length = 1 + s := by rw [Array.length_toList, hz]
               rw [hzl] at h9; simp only [List.length_nil] at h9; omega
      | cons x r => exact ⟨x, r, rfl⟩
    have hr : r.length = cs.length := by
      have h9 : z.cells.toList.length = 1 + s := by rw [Array.length_toList, hz]
      rw [hx] at h9; simp only [List.length_cons] at h9; omega
    simp [Array.toList_setIfInBounds, hx, hr]
    omega
  unfold Program.built
  simp only [hit, hu, hz0, List.mapM_cons, List.mapM_nil, e0, e1, Option.map_some, o0, o1, s0, s1]
  simp only [bind, Option.bind, pure]
  have hne : ¬ (1 > z.cells.size) := by omega
  have hne2 : ¬ (1 + s > z.cells.size) := by omega
  unfold Instr.fill
  simp [c0]
  refine ⟨fun e => by rw [e] at hz; simp at hz; omega, ?_⟩
  unfold Instr.fill
  simp [hv, hl]
  refine ⟨by omega, ?_⟩
  unfold Instr.fill
  have hg2 := hg
  simp at hg2
  rw [hg2]

/-! ### A disk -/
/-- A sector of noughts. -/
def zsec : List UInt8 := List.replicate 512 0
theorem zsec_len : zsec.length = 512 := List.length_replicate
structure Dk where
  kept : List (List UInt8)
  cache : List (Nat × List UInt8)
  trip : Int
  dark : Bool
  r : Int
  w : Int
  s : Int
abbrev inc (n : Int) : Int := IntKind.i64.wrap (n + 1)
abbrev dec (n : Int) : Int := IntKind.i64.wrap (n - 1)
def Dk.good (d : Dk) : Prop := (∀ s ∈ d.kept, s.length = 512) ∧ (∀ p ∈ d.cache, p.1 < d.kept.length ∧ p.2.length = 512) ∧ d.kept.length ≤ 8192
/-- An operation comes: is it done? -/
def Dk.goes (d : Dk) : Bool × Dk := if d.dark = true then (false, d) else if d.trip = 0 then (false, { d with dark := true, trip := -1 }) else (true, { d with trip := if 0 < d.trip then dec d.trip else d.trip })
def Dk.goesI (d : Dk) : Bool × Dk := if d.kept = [] then (false, d) else d.goes
def seenF : List (Nat × List UInt8) → Nat → List UInt8 → List UInt8
  | [], _, x => x
  | p :: c, at_, x => seenF c at_ (if p.1 = at_ then p.2 else x)
def Dk.seen (d : Dk) (at_ : Nat) : List UInt8 := seenF d.cache at_ (d.kept.getD at_ [])
def Dk.out (d : Dk) (at_ : Int) : Prop := at_ < 0 ∨ (d.kept.length : Int) ≤ at_
instance (d : Dk) (at_ : Int) : Decidable (d.out at_) := by unfold Dk.out; exact inferInstance
def Dk.read (d : Dk) (at_ : Int) : List UInt8 × Int × Dk := if d.out at_ then ([], 2, d) else if d.goes.1 = true then (d.seen at_.toNat, 0, { d.goes.2 with r := inc d.r }) else ([], 8, d.goes.2)
def Dk.write (d : Dk) (at_ : Int) (b : List UInt8) : Int × Dk := if d.out at_ then (2, d) else if b.length ≠ 512 then (1, d) else if d.goes.1 = true then (0, { d.goes.2 with w := inc d.w, cache := d.cache ++ [(at_.toNat, b)] }) else (8, d.goes.2)
def lay : List (List UInt8) → List (Nat × List UInt8) → List (List UInt8)
  | k, [] => k
  | k, p :: c => lay (k.set p.1 p.2) c
def layK : List (List UInt8) → List (Nat × List UInt8) → List Bool → List (List UInt8)
  | k, [], _ => k
  | k, p :: c, keep => layK (if keep.headD false = true then k.set p.1 p.2 else k) c keep.tail
def Dk.sync (d : Dk) : Int × Dk := if d.goes.1 = true then (0, { d.goes.2 with s := inc d.s, kept := lay d.kept d.cache, cache := [] }) else (8, d.goes.2)
def Dk.syncI (d : Dk) : Int × Dk := if d.kept = [] then (8, d) else d.sync
def Dk.cut (d : Dk) (keep : List Bool) : Dk := { d with kept := layK d.kept d.cache keep, cache := [], dark := false, trip := -1 }
def Dk.cutI (d : Dk) (keep : List Bool) : Dk := if d.kept = [] then d else d.cut keep
def Dk.arm (d : Dk) (n : Int) : Dk := if d.dark = true then d else { d with trip := max n (-1) }
def Dk.armI (d : Dk) (n : Int) : Dk := if d.kept = [] then d else d.arm n
def Dk.image (d : Dk) : List UInt8 := d.kept.flatten
def Dk.new (n : Nat) : Dk := ⟨List.replicate n zsec, [], -1, false, 0, 0, 0⟩

theorem Dk.goes_kept (d : Dk) : d.goes.2.kept = d.kept := by unfold Dk.goes; split; rfl; split <;> rfl
theorem Dk.goes_cache (d : Dk) : d.goes.2.cache = d.cache := by unfold Dk.goes; split; rfl; split <;> rfl
theorem Dk.goes_r (d : Dk) : d.goes.2.r = d.r := by unfold Dk.goes; split; rfl; split <;> rfl
theorem Dk.goes_w (d : Dk) : d.goes.2.w = d.w := by unfold Dk.goes; split; rfl; split <;> rfl
theorem Dk.goes_s (d : Dk) : d.goes.2.s = d.s := by unfold Dk.goes; split; rfl; split <;> rfl
theorem Dk.goes_dark (d : Dk) (h : d.goes.1 = true) : d.goes.2.dark = false := by
  unfold Dk.goes at h ⊢
  split at h
  · cases h
  · rename_i h1
    split at h
    · cases h
    · rename_i h2
      rw [if_neg h1, if_neg h2]
      simpa using h1
theorem Dk.goes_good {d : Dk} (h : d.good) : d.goes.2.good := by unfold Dk.good; rw [d.goes_kept, d.goes_cache]; exact h
theorem Dk.goesI_kept (d : Dk) : d.goesI.2.kept = d.kept := by unfold Dk.goesI; split; rfl; exact d.goes_kept
theorem Dk.goesI_cache (d : Dk) : d.goesI.2.cache = d.cache := by unfold Dk.goesI; split; rfl; exact d.goes_cache
theorem Dk.goesI_eq {d : Dk} (h : d.kept ≠ []) : d.goesI = d.goes := by unfold Dk.goesI; rw [if_neg h]
theorem lay_length : ∀ (c : List (Nat × List UInt8)) (k : List (List UInt8)), (lay k c).length = k.length
  | [], k => rfl
  | p :: c, k => by simp [lay, lay_length c]
theorem layK_length : ∀ (c : List (Nat × List UInt8)) (k : List (List UInt8)) (keep : List Bool), (layK k c keep).length = k.length
  | [], k, _ => rfl
  | p :: c, k, keep => by simp only [layK]; rw [layK_length c]; split <;> simp
theorem set_all {k : List (List UInt8)} (h : ∀ s ∈ k, s.length = 512) (i : Nat) {b : List UInt8} (hb : b.length = 512) : ∀ s ∈ k.set i b, s.length = 512 := fun s hs => by
  rcases List.mem_or_eq_of_mem_set hs with hs | rfl
  · exact h s hs
  · exact hb
theorem lay_all : ∀ (c : List (Nat × List UInt8)) (k : List (List UInt8)), (∀ s ∈ k, s.length = 512) → (∀ p ∈ c, p.2.length = 512) → ∀ s ∈ lay k c, s.length = 512
  | [], k, h, _ => h
  | p :: c, k, h, hc => lay_all c _ (set_all h _ (hc p (by simp))) (fun q hq => hc q (List.mem_cons_of_mem _ hq))
theorem layK_all : ∀ (c : List (Nat × List UInt8)) (k : List (List UInt8)) (keep : List Bool), (∀ s ∈ k, s.length = 512) → (∀ p ∈ c, p.2.length = 512) → ∀ s ∈ layK k c keep, s.length = 512
  | [], k, _, h, _ => h
  | p :: c, k, keep, h, hc => layK_all c _ _ (by split; exact set_all h _ (hc p (by simp)); exact h) (fun q hq => hc q (List.mem_cons_of_mem _ hq))
theorem Dk.read_good {d : Dk} (h : d.good) (at_ : Int) : (d.read at_).2.2.good := by
  unfold Dk.read
  split
  · exact h
  · split
    · have := Dk.goes_good h; exact this
    · exact Dk.goes_good h
theorem Dk.write_good {d : Dk} (h : d.good) (at_ : Int) (b : List UInt8) : (d.write at_ b).2.good := by
  unfold Dk.write
  split
  · exact h
  · rename_i ho
    split
    · exact h
    · rename_i hb
      split
      · obtain ⟨h1, h2, h3⟩ := h
        unfold Dk.out at ho
        refine ⟨by rw [d.goes_kept]; exact h1, fun p hp => ?_, by rw [d.goes_kept]; exact h3⟩
        simp only [d.goes_kept]
        rcases List.mem_append.1 hp with hp | hp
        · exact h2 p hp
        · obtain rfl := List.mem_singleton.1 hp
          exact ⟨by simp only; omega, Decidable.not_not.1 hb⟩
      · exact Dk.goes_good h
theorem Dk.sync_good {d : Dk} (h : d.good) : d.sync.2.good := by
  unfold Dk.sync
  split
  · exact ⟨lay_all _ _ h.1 (fun p hp => (h.2.1 p hp).2), by simp, by simp only [lay_length]; exact h.2.2⟩
  · exact Dk.goes_good h
theorem Dk.cut_good {d : Dk} (h : d.good) (keep : List Bool) : (d.cut keep).good := ⟨layK_all _ _ _ h.1 (fun p hp => (h.2.1 p hp).2), by simp [Dk.cut], by simp only [Dk.cut, layK_length]; exact h.2.2⟩
theorem Dk.arm_good {d : Dk} (h : d.good) (n : Int) : (d.arm n).good := by unfold Dk.arm; split <;> exact h
theorem Dk.new_good (n : Nat) (h : n ≤ 8192) : (Dk.new n).good := ⟨fun s hs => by rw [List.eq_of_mem_replicate hs]; exact zsec_len, fun p hp => (by cases hp), by show (List.replicate n _).length ≤ 8192; rw [List.length_replicate]; exact h⟩
theorem seenF_len : ∀ (c : List (Nat × List UInt8)) (at_ : Nat) (x : List UInt8), x.length = 512 → (∀ p ∈ c, p.2.length = 512) → (seenF c at_ x).length = 512
  | [], _, x, h, _ => h
  | p :: c, at_, x, h, hc => seenF_len c at_ _ (by split; exact hc p (by simp); exact h) (fun q hq => hc q (List.mem_cons_of_mem _ hq))
theorem getD_kept {k : List (List UInt8)} (h : ∀ s ∈ k, s.length = 512) {i : Nat} (hi : i < k.length) : (k.getD i []).length = 512 := by
  simp only [List.getD, List.getElem?_eq_getElem hi, Option.getD_some]; exact h _ (List.getElem_mem hi)
theorem Dk.seen_len {d : Dk} (h : d.good) {at_ : Nat} (hi : at_ < d.kept.length) : (d.seen at_).length = 512 := seenF_len _ _ _ (getD_kept h.1 hi) (fun p hp => (h.2.1 p hp).2)

/-! ### .. in memory -/
abbrev secsV (k : List (List UInt8)) : List Value := flatV bytesV k
def looseV (p : Nat × List UInt8) : List Value := .int .i64 (p.1 : Int) :: bytesV p.2
abbrev loosesV (c : List (Nat × List UInt8)) : List Value := flatV looseV c
theorem secs_z {k : List (List UInt8)} (h : ∀ s ∈ k, s.length = 512) : ∀ s ∈ k, (bytesV s).length = 512 := fun s hs => by rw [bytesV_length]; exact h s hs
theorem looses_z {c : List (Nat × List UInt8)} (h : ∀ p ∈ c, p.2.length = 512) : ∀ p ∈ c, (looseV p).length = 513 := fun p hp => by simp [looseV, bytesV_length, h p hp]
theorem Dk.good.secs {d : Dk} (h : d.good) : ∀ s ∈ d.kept, (bytesV s).length = 512 := secs_z h.1
theorem Dk.good.looses {d : Dk} (h : d.good) : ∀ p ∈ d.cache, (looseV p).length = 513 := looses_z (fun p hp => (h.2.1 p hp).2)
def dkV (Ak : Option Addr) (ck : Nat) (Ac : Option Addr) (cc : Nat) (d : Dk) : List Value := [.slice Ak d.kept.length ck, .slice Ac d.cache.length cc, .int .i64 d.trip, .bool d.dark, .int .i64 d.r, .int .i64 d.w, .int .i64 d.s]
/-- A disk: its struct, its sectors, its cache. -/
def dkC (g : Nat) (Ak : Option Addr) (ck : Nat) (Ac : Option Addr) (cc : Nat) (d : Dk) : List Chunk :=
  [box g 63 [.slice Ak d.kept.length ck, .slice Ac d.cache.length cc, .int .i64 d.trip, .bool d.dark, .int .i64 d.r, .int .i64 d.w, .int .i64 d.s], row (.slice Ak d.kept.length ck) 66 512 d.kept.length (secsV d.kept), row (.slice Ac d.cache.length cc) 68 513 d.cache.length (loosesV d.cache)]
def blk (A : Option Addr) : List Nat := (A.map (·.block)).toList
def dkF (g : Nat) (Ak Ac : Option Addr) : List Nat := g :: (blk Ak ++ blk Ac)
theorem ownBlock_blk (A : Option Addr) (n c k : Nat) : (Value.slice A n c).ownBlock = some k ↔ k ∈ blk A := by
  cases A <;> simp [Value.ownBlock, blk, eq_comm]
theorem dk_lend {g : Nat} {Ak : Option Addr} {ck : Nat} {Ac : Option Addr} {cc : Nat} {d : Dk} : ∀ c ∈ dkC g Ak ck Ac cc d, ∀ k, c.fp k → k ∈ dkF g Ak Ac := fun c hc k hk => by
  simp only [dkC, List.mem_cons, List.not_mem_nil, or_false] at hc
  simp only [dkF, List.mem_cons, List.mem_append]
  rcases hc with rfl | rfl | rfl
  · exact .inl hk
  · exact .inr (.inl ((ownBlock_blk _ _ _ _).1 hk))
  · exact .inr (.inr ((ownBlock_blk _ _ _ _).1 hk))
theorem dk_lend' {g : Nat} {Ak : Option Addr} {ck : Nat} {Ac : Option Addr} {cc : Nat} {d : Dk} : ∀ k ∈ dkF g Ak Ac, ∃ c ∈ dkC g Ak ck Ac cc d, c.fp k := fun k hk => by
  simp only [dkF, List.mem_cons, List.mem_append] at hk
  rcases hk with rfl | hk | hk
  · exact ⟨_, List.mem_cons_self, rfl⟩
  · exact ⟨_, List.mem_cons_of_mem _ List.mem_cons_self, (ownBlock_blk _ _ _ _).2 hk⟩
  · exact ⟨_, List.mem_cons_of_mem _ (List.mem_cons_of_mem _ List.mem_cons_self), (ownBlock_blk _ _ _ _).2 hk⟩
theorem rd_sec {cx : Cx} {H : List Chunk} {A : Option Addr} {k : List (List UInt8)} (hr : RdS cx H A (secsV k)) (h : ∀ s ∈ k, s.length = 512) {i : Nat} (hi : i < k.length) : RdS cx H (A.map (·.add (i * 512))) (bytesV (k.getD i [])) := by
  have := (hr.off (i * 512)).take 512
  rw [flatV_at i [] (secs_z h) hi] at this
  exact this
theorem flat_snoc (k : List (List UInt8)) (i : Nat) (h : i < k.length) : (k.take (i + 1)).flatten = (k.take i).flatten ++ k.getD i [] := by
  rw [List.take_succ_eq_append_getElem h, List.flatten_append]
  simp [List.getD, h]
theorem flat_len {k : List (List UInt8)} (h : ∀ s ∈ k, s.length = 512) : k.flatten.length = k.length * 512 := by
  induction k with
  | nil => rfl
  | cons s k ih =>
    have h1 := h s (by simp)
    have h2 := ih (fun s hs => h s (List.mem_cons_of_mem _ hs))
    simp only [List.flatten_cons, List.length_append, List.length_cons]
    omega
theorem Dk.image_len {d : Dk} (h : d.good) : d.image.length = d.kept.length * 512 := flat_len h.1
theorem seenF_drop {c : List (Nat × List UInt8)} {i : Nat} (at_ : Nat) (x : List UInt8) (h : i < c.length) : seenF (c.drop i) at_ x = seenF (c.drop (i + 1)) at_ (if (c.getD i (0, [])).1 = at_ then (c.getD i (0, [])).2 else x) := by
  rw [List.drop_eq_getElem_cons h]
  simp [seenF, List.getD, h]
theorem lay_drop {c : List (Nat × List UInt8)} {i : Nat} (k : List (List UInt8)) (h : i < c.length) : lay k (c.drop i) = lay (k.set (c.getD i (0, [])).1 (c.getD i (0, [])).2) (c.drop (i + 1)) := by
  rw [List.drop_eq_getElem_cons h]
  simp [lay, List.getD, h]
theorem layK_drop {c : List (Nat × List UInt8)} {i : Nat} (k : List (List UInt8)) (keep : List Bool) (h : i < c.length) : layK k (c.drop i) (keep.drop i) = layK (if keep.getD i false = true then k.set (c.getD i (0, [])).1 (c.getD i (0, [])).2 else k) (c.drop (i + 1)) (keep.drop (i + 1)) := by
  rw [List.drop_eq_getElem_cons h]
  have h1 : (keep.drop i).headD false = keep.getD i false := by
    simp [List.headD_eq_head?_getD, List.getD]
  have h2 : (keep.drop i).tail = keep.drop (i + 1) := by simp
  have h3 : c.getD i (0, []) = c[i] := by simp [List.getD, h]
  show layK (if (keep.drop i).headD false = true then k.set c[i].1 c[i].2 else k) _ (keep.drop i).tail = _
  rw [h1, h2, h3]
theorem seenF_end (c : List (Nat × List UInt8)) (at_ : Nat) (x : List UInt8) : seenF (c.drop c.length) at_ x = x := by rw [List.drop_length]; rfl
theorem lay_end (c : List (Nat × List UInt8)) (k : List (List UInt8)) : lay k (c.drop c.length) = k := by rw [List.drop_length]; rfl
theorem layK_end (c : List (Nat × List UInt8)) (k : List (List UInt8)) (keep : List Bool) : layK k (c.drop c.length) keep = k := by rw [List.drop_length]; rfl
theorem getD_cache {d : Dk} (h : d.good) {i : Nat} (hi : i < d.cache.length) : (d.cache.getD i (0, [])).1 < d.kept.length ∧ (d.cache.getD i (0, [])).2.length = 512 := by
  have e : d.cache.getD i (0, []) = d.cache[i] := by simp [List.getD, hi]
  rw [e]
  exact h.2.1 _ (List.getElem_mem hi)
theorem looseV_len {p : Nat × List UInt8} (h : p.2.length = 512) : (looseV p).length = 513 := by simp [looseV, bytesV_length, h]
theorem looseV_one (p : Nat × List UInt8) : ∀ u ∈ looseV p, u.oneCell' = true := fun u hu => by
  rcases List.mem_cons.1 hu with rfl | hu
  · rfl
  · exact bytesV_one _ u hu
theorem looseV_to {p : Nat × List UInt8} (h : p.2.length = 512) : ((looseV p).drop (0 + 1)).take 512 = bytesV p.2 := by
  show (bytesV p.2).take 512 = _
  rw [List.take_of_length_le (by rw [bytesV_length]; omega)]
def boolsV (l : List Bool) : List Value := l.map Value.bool
theorem boolsV_get (l : List Bool) (i : Nat) (h : i < l.length) : (boolsV l)[i * 1]? = some (.bool (l.getD i false)) := by simp [boolsV, List.getD, h]
theorem boolsV_length (l : List Bool) : (boolsV l).length = l.length := by simp [boolsV]
theorem take512 {b : List UInt8} (h : b.length = 512) : ((bytesV b).drop 0).take 512 = bytesV b := by
  rw [List.drop_zero, List.take_of_length_le (by rw [bytesV_length]; omega)]
theorem dk_snoc {g : Nat} {Ak : Option Addr} {ck : Nat} {Ac : Option Addr} {cc : Nat} {d : Dk} (p : Nat × List UInt8) : dkC g Ak ck Ac cc { d with cache := d.cache ++ [p] } =
    [box g 63 [.slice Ak d.kept.length ck, .slice Ac (d.cache.length + 1) cc, .int .i64 d.trip, .bool d.dark, .int .i64 d.r, .int .i64 d.w, .int .i64 d.s], row (.slice Ak d.kept.length ck) 66 512 d.kept.length (secsV d.kept), row (.slice Ac (d.cache.length + 1) cc) 68 513 (d.cache.length + 1) (loosesV d.cache ++ looseV p)] := by
  simp only [dkC, List.length_append, List.length_singleton, loosesV, flatV_append]
  simp [flatV]
theorem dk_set {g : Nat} {Ak : Option Addr} {ck : Nat} {Ac : Option Addr} {cc : Nat} {d : Dk} {k : List (List UInt8)} (i : Nat) (b : List UInt8) (hk : ∀ s ∈ k, s.length = 512) (hb : b.length = 512) (hi : i < k.length) : dkC g Ak ck Ac cc { d with kept := k.set i b } =
    [box g 63 [.slice Ak k.length ck, .slice Ac d.cache.length cc, .int .i64 d.trip, .bool d.dark, .int .i64 d.r, .int .i64 d.w, .int .i64 d.s], row (.slice Ak k.length ck) 66 512 k.length (setL (secsV k) (i * 512) (bytesV b)), row (.slice Ac d.cache.length cc) 68 513 d.cache.length (loosesV d.cache)] := by
  simp only [dkC, List.length_set]
  rw [flatV_set i b (secs_z hk) (by rw [bytesV_length]; exact hb) hi]
theorem dk_new (g : Nat) (Ak : Option Addr) (n : Nat) : dkC g Ak n none 0 (Dk.new n) = [box g 63 [.slice Ak n n, .slice none 0 0, .int .i64 (-1), .bool false, .int .i64 0, .int .i64 0, .int .i64 0], row (.slice Ak n n) 66 512 n (secsV (List.replicate n zsec)), row (.slice none 0 0) 68 513 0 []] := by
  simp only [dkC, Dk.new, List.length_replicate]
  rfl
theorem made_secs (n : Nat) : (madeCells (Value.cells (.agg (bytesV (List.replicate 512 0)).toArray)) (n * 512)).toList = secsV (List.replicate n zsec) :=
  made_flat (f := bytesV) (z := 512) (n := n) (a := zsec) (by rw [bytesV_length]; exact zsec_len)
/-- An image's sectors; the first i of them, noughts behind. -/
def sec (l : List UInt8) (i : Nat) : List UInt8 := (l.drop (i * 512)).take 512
def secs (l : List UInt8) (m i : Nat) : List (List UInt8) := (List.range m).map fun j => if j < i then sec l j else zsec
theorem secs_length (l : List UInt8) (m i : Nat) : (secs l m i).length = m := by simp [secs]
theorem secs_zero (l : List UInt8) (m : Nat) : secs l m 0 = List.replicate m zsec := by
  apply List.ext_getElem
  · rw [secs_length, List.length_replicate]
  · intro i h1 h2
    simp only [secs, List.getElem_map, List.getElem_replicate, Nat.not_lt_zero, if_false]
theorem sec_len (l : List UInt8) (i : Nat) (h : (i + 1) * 512 ≤ l.length) : (sec l i).length = 512 := by rw [sec, List.length_take, List.length_drop]; omega
theorem secs_all (l : List UInt8) (m i : Nat) (h : m * 512 ≤ l.length) : ∀ s ∈ secs l m i, s.length = 512 := fun s hs => by
  obtain ⟨j, hj, rfl⟩ := List.mem_map.1 hs
  have hj' := List.mem_range.1 hj
  have h2 : (j + 1) * 512 ≤ m * 512 := Nat.mul_le_mul_right _ hj'
  show (if j < i then sec l j else zsec).length = 512
  by_cases h3 : j < i
  · rw [if_pos h3]; exact sec_len l j (Nat.le_trans h2 h)
  · rw [if_neg h3]; exact zsec_len
theorem secs_set (l : List UInt8) (m i : Nat) (h : i < m) : (secs l m i).set i (sec l i) = secs l m (i + 1) := by
  apply List.ext_getElem
  · simp [secs]
  · intro j h1 h2
    have hj : j < m := by rw [secs_length] at h2; exact h2
    rw [List.getElem_set]
    simp only [secs, List.getElem_map, List.getElem_range]
    by_cases hij : i = j
    · subst hij; simp
    · rw [if_neg hij]
      by_cases h3 : j < i
      · rw [if_pos h3, if_pos (by omega)]
      · rw [if_neg h3, if_neg (by omega)]
theorem secs_flat (l : List UInt8) (m : Nat) (h : l.length = m * 512) : (secs l m m).flatten = l := by
  have e : secs l m m = (List.range m).map fun j => sec l j := List.map_congr_left fun j hj => by rw [if_pos (List.mem_range.1 hj)]
  have key : ∀ k, k ≤ m → ((List.range k).map fun j => sec l j).flatten = l.take (k * 512) := by
    intro k
    induction k with
    | zero => intro _; simp
    | succ k ih =>
      intro hk
      rw [List.range_succ, List.map_append, List.flatten_append, ih (by omega)]
      simp only [List.map_cons, List.map_nil, List.flatten_cons, List.flatten_nil, List.append_nil, sec]
      rw [show (k + 1) * 512 = k * 512 + 512 from Nat.succ_mul k 512, List.take_add]
  rw [e, key m (Nat.le_refl _), ← h, List.take_length]
theorem sec_rd {cx : Cx} {H : List Chunk} {A : Option Addr} {n c : Nat} {l : List UInt8} (hr : RdS cx H A (bytesV l)) (hn : l.length = n) (hc : n ≤ c) (i : Nat) (hi : (i + 1) * 512 ≤ n) : RdS cx H (cutA A c (i * 512) 1) (bytesV (l.drop (i * 512))) := by
  have hi' : i * 512 ≤ n := Nat.le_trans (Nat.mul_le_mul_right _ (Nat.le_succ i)) hi
  have := hr.cut (n := n) (cap := c) (l := i * 512) (s := 1) (by rw [bytesV_length, hn, Nat.mul_one]) hi' hc
  rw [Nat.mul_one, ← bytesV_drop] at this
  exact this
theorem sec_take (l : List UInt8) (i : Nat) : ((bytesV (l.drop (i * 512))).drop 0).take 512 = bytesV (sec l i) := by
  rw [List.drop_zero, ← bytesV_take]; rfl
def Dk.load (l : List UInt8) (m : Nat) : Dk := { Dk.new m with kept := secs l m m }
theorem Dk.load_good (l : List UInt8) (m : Nat) (h : l.length = m * 512) (hm : m ≤ 8192) : (Dk.load l m).good := ⟨secs_all l m m (by omega), fun p hp => (by cases hp), by show (secs l m m).length ≤ 8192; rw [secs_length]; exact hm⟩
/-- A disk that nobody made. -/
def Dk.none : Dk := ⟨[], [], 0, false, 0, 0, 0⟩
theorem none_good : Dk.none.good := ⟨fun s hs => (by cases hs), fun s hs => (by cases hs), Nat.zero_le _⟩
theorem none_read (at_ : Int) : Dk.none.read at_ = ([], 2, Dk.none) := by
  have h : Dk.none.out at_ := by show at_ < 0 ∨ (0 : Int) ≤ at_; omega
  rw [Dk.read, if_pos h]
theorem none_write (at_ : Int) (b : List UInt8) : Dk.none.write at_ b = (2, Dk.none) := by
  have h : Dk.none.out at_ := by show at_ < 0 ∨ (0 : Int) ≤ at_; omega
  rw [Dk.write, if_pos h]
theorem none_sync : Dk.none.syncI = (8, Dk.none) := rfl
theorem none_arm (n : Int) : Dk.none.armI n = Dk.none := rfl
theorem none_cut (keep : List Bool) : Dk.none.cutI keep = Dk.none := rfl
theorem goes_parts (d : Dk) : ∃ ok d1, d.goes = (ok, d1) ∧ d1.kept = d.kept ∧ d1.cache = d.cache ∧ d1.r = d.r ∧ d1.w = d.w ∧ d1.s = d.s := ⟨_, _, rfl, d.goes_kept, d.goes_cache, d.goes_r, d.goes_w, d.goes_s⟩
end Go.WK
