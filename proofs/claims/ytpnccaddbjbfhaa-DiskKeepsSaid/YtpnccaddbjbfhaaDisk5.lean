/- What disks answer side by side: with a trip and without; made of another one's image. Plain: no program in sight. -/
import Derived.Test.YtpnccaddbjbfhaaDisk4
namespace Go.WK
open Go.RowKit

section ops
variable {m : Bool} {cx : Cx} {fs : Slots} {H : List Chunk} {Q : Post} {ops : Array Oper} {rest : List Oper} {g : Option (Nat × Bool)} {d : Nat} {ty : TypeId} {pos : String} {af : Array Edge}
theorem o_neqSame {x y : Operand} {t yt : TypeId} {l l' : List UInt8} (hok : okS cx.n ops fs d g = true) (hx : ev fs x = some (.string (B l))) (hy : ev fs y = some (.string (B l'))) (h : l = l') (k : TriX m cx ops ((d, .bool false) :: fs) H rest Q) :
    TriX m cx ops fs H (⟨some d, .binOp .neq t x y yt, ty, pos, af, g⟩ :: rest) Q := o_neqT hok hx hy (by rw [decide_eq_false (by simpa using h)]; exact k)
end ops

/-- A step that a disk of N sectors can take. -/
def fineP (N : Nat) (x : Stp) : Prop := x.dob = 2 ∨ ((x.dob = 0 ∨ x.dob = 1) ∧ 0 ≤ x.at_ ∧ x.at_ < (N : Int) ∧ (x.dob = 0 ∨ x.b.length = 512))
theorem ans_read {d : Dk} {x : Stp} (h : x.dob = 0) (ho : ¬ d.out x.at_) : d.ans x = if d.goes.1 = true then (0, d.seen x.at_.toNat, { d.goes.2 with r := inc d.r }) else (8, [], d.goes.2) := by
  rw [Dk.ans, if_pos h, Dk.read, if_neg ho]
  split <;> rfl
theorem ans_write {d : Dk} {x : Stp} (h : x.dob = 1) (ho : ¬ d.out x.at_) (hb : x.b.length = 512) : d.ans x = if d.goes.1 = true then (0, [], { d.goes.2 with w := inc d.w, cache := d.cache ++ [(x.at_.toNat, x.b)] }) else (8, [], d.goes.2) := by
  rw [Dk.ans, if_neg (by omega), if_pos h, Dk.write, if_neg ho, if_neg (by omega)]
  split <;> rfl
theorem ans_sync {d : Dk} {x : Stp} (h0 : x.dob ≠ 0) (h1 : x.dob ≠ 1) (hne : d.kept ≠ []) : d.ans x = if d.goes.1 = true then (0, [], { d.goes.2 with s := inc d.s, kept := lay d.kept d.cache, cache := [] }) else (8, [], d.goes.2) := by
  rw [Dk.ans, if_neg h0, if_neg h1, Dk.syncI, if_neg hne, Dk.sync]
  split <;> rfl
theorem fine_out {d : Dk} {x : Stp} (h : 0 ≤ x.at_ ∧ x.at_ < (d.kept.length : Int)) : ¬ d.out x.at_ := by unfold Dk.out; omega
/-- An operation that is not done. -/
theorem ans_dark {d : Dk} {x : Stp} (hf : fineP d.kept.length x) (hne : d.kept ≠ []) (hg : d.goes.1 = false) : d.ans x = (8, [], d.goes.2) := by
  rcases hf with h | ⟨h | h, h1, h2, h3⟩
  · rw [ans_sync (by omega) (by omega) hne, if_neg (by rw [hg]; simp)]
  · rw [ans_read h (fine_out ⟨h1, h2⟩), if_neg (by rw [hg]; simp)]
  · rw [ans_write h (fine_out ⟨h1, h2⟩) (by omega), if_neg (by rw [hg]; simp)]
/-- The same sectors, the same cache. -/
def Alike (a b : Dk) : Prop := a.kept = b.kept ∧ a.cache = b.cache
theorem ans_two {a b : Dk} {x : Stp} (hs : Alike a b) (hf : fineP a.kept.length x) (hne : a.kept ≠ []) (ha : a.goes.1 = true) (hb : b.goes.1 = true) :
    twiceB a b x = true ∧ Alike (a.ans x).2.2 (b.ans x).2.2 ∧ (a.ans x).2.2.dark = false ∧ (b.ans x).2.2.dark = false ∧ (a.ans x).2.2.trip = a.goes.2.trip ∧ (b.ans x).2.2.trip = b.goes.2.trip ∧
    (a.r = b.r ∧ a.w = b.w ∧ a.s = b.s → (a.ans x).2.2.r = (b.ans x).2.2.r ∧ (a.ans x).2.2.w = (b.ans x).2.2.w ∧ (a.ans x).2.2.s = (b.ans x).2.2.s) ∧ (a.ans x).2.2.kept.length = a.kept.length ∧ (a.ans x).2.2.cache.length ≤ a.cache.length + 1 := by
  have hda := a.goes_dark ha
  have hdb := b.goes_dark hb
  have hneb : b.kept ≠ [] := by rw [← hs.1]; exact hne
  have hfb : fineP b.kept.length x := by rw [← hs.1]; exact hf
  have a1 := a.goes_kept; have a2 := a.goes_cache; have a3 := a.goes_r; have a4 := a.goes_w; have a5 := a.goes_s
  have b1 := b.goes_kept; have b2 := b.goes_cache; have b3 := b.goes_r; have b4 := b.goes_w; have b5 := b.goes_s
  rcases hf with h | ⟨h | h, h1, h2, h3⟩
  · have ea := ans_sync (d := a) (x := x) (by omega) (by omega) hne
    have eb := ans_sync (d := b) (x := x) (by omega) (by omega) hneb
    rw [if_pos ha] at ea
    rw [if_pos hb] at eb
    refine ⟨by rw [twiceB, ea, eb]; rfl, ?_⟩
    rw [ea, eb]
    refine ⟨⟨by simp only [hs.1, hs.2], rfl⟩, hda, hdb, rfl, rfl, fun ⟨e1, e2, e3⟩ => ⟨by simp only [a3, b3, e1], by simp only [a4, b4, e2], by simp only [e3]⟩, lay_length _ _, Nat.zero_le _⟩
  · have ea := ans_read (d := a) (x := x) h (fine_out ⟨h1, h2⟩)
    have eb := ans_read (d := b) (x := x) h (fine_out ⟨h1, by rw [← hs.1]; exact h2⟩)
    rw [if_pos ha] at ea
    rw [if_pos hb] at eb
    have hseen : a.seen x.at_.toNat = b.seen x.at_.toNat := by simp only [Dk.seen, hs.1, hs.2]
    refine ⟨by rw [twiceB, ea, eb]; simp [hseen], ?_⟩
    rw [ea, eb]
    refine ⟨⟨by simp only [a1, b1, hs.1], by simp only [a2, b2, hs.2]⟩, hda, hdb, rfl, rfl, fun ⟨e1, e2, e3⟩ => ⟨by simp only [e1], by simp only [a4, b4, e2], by simp only [a5, b5, e3]⟩, by simp only [a1], by simp only [a2]; omega⟩
  · have ea := ans_write (d := a) (x := x) h (fine_out ⟨h1, h2⟩) (by omega)
    have eb := ans_write (d := b) (x := x) h (fine_out ⟨h1, by rw [← hs.1]; exact h2⟩) (by omega)
    rw [if_pos ha] at ea
    rw [if_pos hb] at eb
    refine ⟨by rw [twiceB, ea, eb]; rfl, ?_⟩
    rw [ea, eb]
    refine ⟨⟨by simp only [a1, b1, hs.1], by simp only [hs.2]⟩, hda, hdb, rfl, rfl, fun ⟨e1, e2, e3⟩ => ⟨by simp only [a3, b3, e1], by simp only [e2], by simp only [a5, b5, e3]⟩, by simp only [a1], by simp⟩
/-- No trip, not dark. -/
def Dk.calm (d : Dk) : Prop := d.dark = false ∧ d.trip = -1
theorem calm_goes {d : Dk} (h : d.calm) : d.goes = (true, d) := by
  obtain ⟨h1, h2⟩ := h
  cases d
  simp only at h1 h2
  subst h1 h2
  rfl
theorem calm_new (n : Nat) : (Dk.new n).calm := ⟨rfl, rfl⟩

/-! ### With a trip, and without -/
/-- Up to the trip: 'came' operations of n are done; a would trip, b never. -/
structure Trip2 (n : Int) (came : Nat) (a b : Dk) : Prop where
  al : Alike a b
  r : a.r = b.r
  w : a.w = b.w
  s : a.s = b.s
  calm : b.calm
  le : (came : Int) ≤ n
  len : a.kept.length = 4
  good : a.good
  goodb : b.good
  cache : a.cache.length ≤ came
  st : (a.dark = false ∧ a.trip = n - came) ∨ (a.dark = true ∧ (came : Int) = n)
theorem Trip2.ne {n : Int} {c : Nat} {a b : Dk} (h : Trip2 n c a b) : a.kept ≠ [] := ne_nil h.len (by omega)
theorem trip_start {n : Int} (hn : 0 ≤ n) : Trip2 n 0 ((Dk.new 4).armI n) (Dk.new 4) := by
  have e : (Dk.new 4).armI n = { Dk.new 4 with trip := n } := by
    have h1 : (Dk.new 4).kept ≠ [] := ne_nil (d := Dk.new 4) (n := 4) List.length_replicate (by omega)
    have h2 : max n (-1) = n := by omega
    rw [Dk.armI, if_neg h1, Dk.arm, if_neg (by decide), h2]
  rw [e]
  exact ⟨⟨rfl, rfl⟩, rfl, rfl, rfl, calm_new 4, by omega, List.length_replicate, Dk.new_good 4 (by omega), Dk.new_good 4 (by omega), Nat.le_refl _, .inl ⟨rfl, by simp⟩⟩
theorem goes_trip {d : Dk} (h1 : d.dark = false) (h2 : 0 < d.trip) : d.goes = (true, { d with trip := dec d.trip }) := by
  rw [Dk.goes, if_neg (by rw [h1]; simp), if_neg (by omega), if_pos h2]
theorem goes_end {d : Dk} (h : d.dark = true ∨ (d.dark = false ∧ d.trip = 0)) : d.goes.1 = false ∧ d.goes.2.dark = true := by
  rcases h with h | ⟨h1, h2⟩
  · rw [Dk.goes, if_pos h]; exact ⟨rfl, h⟩
  · rw [Dk.goes, if_neg (by rw [h1]; simp), if_pos h2]; exact ⟨rfl, rfl⟩
theorem dec_in {k : Int} (h1 : 0 < k) (h2 : k ≤ 9223372036854775807) : dec k = k - 1 := by
  show IntKind.i64.wrap (k - 1) = k - 1
  exact wrap_in ⟨by omega, by omega⟩
theorem trip_step {n : Int} {c : Nat} {a b : Dk} {x : Stp} (h : Trip2 n c a b) (hn : n ≤ 9223372036854775807) (hf : fineP 4 x) (hc : (c : Int) < n) : twiceB a b x = true ∧ (a.ans x).2.2.dark = false ∧ Trip2 n (c + 1) (a.ans x).2.2 (b.ans x).2.2 := by
  rcases h.st with ⟨h1, h2⟩ | ⟨_, h2⟩
  · have ga := goes_trip h1 (by omega)
    have gb := calm_goes h.calm
    obtain ⟨t1, t2, t3, t4, t5, t6, t7, t8, t9⟩ := ans_two (x := x) h.al (by rw [h.len]; exact hf) h.ne (by rw [ga]) (by rw [gb])
    rw [ga] at t5
    rw [gb] at t6
    obtain ⟨u1, u2, u3⟩ := t7 ⟨h.r, h.w, h.s⟩
    refine ⟨t1, t3, t2, u1, u2, u3, ⟨t4, by rw [t6]; exact h.calm.2⟩, by omega, by rw [t8]; exact h.len, Dk.ans_good h.good x, Dk.ans_good h.goodb x, by have := h.cache; omega, .inl ⟨t3, ?_⟩⟩
    rw [t5]
    simp only
    rw [dec_in (k := a.trip) (by omega) (by omega), h2]
    omega
  · omega
theorem trip_dark {n : Int} {c : Nat} {a b : Dk} {x : Stp} (h : Trip2 n c a b) (hf : fineP 4 x) (hc : n ≤ (c : Int)) : (a.ans x).1 = 8 ∧ (a.ans x).2.2.dark = true ∧ Trip2 n c (a.ans x).2.2 b := by
  have hst : a.dark = true ∨ (a.dark = false ∧ a.trip = 0) := by
    rcases h.st with ⟨h1, h2⟩ | ⟨h1, _⟩
    · exact .inr ⟨h1, by have := h.le; omega⟩
    · exact .inl h1
  obtain ⟨g1, g2⟩ := goes_end hst
  rw [ans_dark (by rw [h.len]; exact hf) h.ne g1]
  refine ⟨rfl, g2, ⟨⟨by rw [a.goes_kept]; exact h.al.1, by rw [a.goes_cache]; exact h.al.2⟩, by rw [a.goes_r]; exact h.r, by rw [a.goes_w]; exact h.w, by rw [a.goes_s]; exact h.s, h.calm, h.le, by rw [a.goes_kept]; exact h.len, Dk.goes_good h.good, h.goodb, by rw [a.goes_cache]; exact h.cache, .inr ⟨g2, by have := h.le; omega⟩⟩⟩
theorem layK_nil : ∀ (c : List (Nat × List UInt8)) (k : List (List UInt8)), layK k c [] = k
  | [], k => rfl
  | p :: c, k => by
    show layK (if (false : Bool) = true then _ else k) c [] = k
    rw [if_neg (by simp)]
    exact layK_nil c k
/-- Cut, and nothing kept. -/
theorem cut_none {d : Dk} (h : d.kept ≠ []) : d.cutI [] = { d with cache := [], dark := false, trip := -1 } := by
  rw [Dk.cutI, if_neg h, Dk.cut, layK_nil]
theorem cut_read {d : Dk} (h : d.kept.length = 4) : (d.cutI []).dark = false ∧ ((d.cutI []).read 0).2.1 = 0 ∧ ((d.cutI []).read 0).2.2.dark = false := by
  have e := cut_none (d := d) (ne_nil h (by omega))
  have hc : (d.cutI []).calm := by rw [e]; exact ⟨rfl, rfl⟩
  have hg := calm_goes hc
  have ho : ¬ (d.cutI []).out 0 := by
    have : (d.cutI []).kept.length = 4 := by rw [e]; exact h
    unfold Dk.out; omega
  refine ⟨hc.1, ?_⟩
  rw [Dk.read, if_neg ho, if_pos (by rw [hg])]
  exact ⟨rfl, by rw [hg]; exact hc.1⟩

/-! ### A disk that is made of another one's image -/
theorem sec_flat : ∀ (k : List (List UInt8)) (i : Nat), (∀ s ∈ k, s.length = 512) → (h : i < k.length) → sec k.flatten i = k[i]
  | [], i, _, h => by simp at h
  | s :: k, 0, hs, _ => by
    have h1 := hs s (by simp)
    simp only [sec, Nat.zero_mul, List.drop_zero, List.flatten_cons, List.getElem_cons_zero]
    rw [List.take_append_of_le_length (by omega), List.take_of_length_le (by omega)]
  | s :: k, i + 1, hs, h => by
    have h1 := hs s (by simp)
    have ih := sec_flat k i (fun s hs' => hs s (List.mem_cons_of_mem _ hs')) (by simpa using h)
    simp only [List.getElem_cons_succ]
    rw [← ih]
    simp only [sec, List.flatten_cons]
    have e : (i + 1) * 512 = s.length + i * 512 := by rw [h1, Nat.succ_mul]; exact Nat.add_comm _ _
    rw [e, ← List.drop_drop, List.drop_append_of_le_length (Nat.le_refl _), List.drop_length, List.nil_append]
theorem secs_image {d : Dk} {n : Nat} (h : d.good) (hn : d.kept.length = n) : secs d.image n n = d.kept := by
  apply List.ext_getElem
  · rw [secs_length, hn]
  · intro i h1 h2
    simp only [secs, List.getElem_map, List.getElem_range]
    rw [if_pos (by omega)]
    exact sec_flat d.kept i h.1 h2
structure Again (n : Nat) (i : Nat) (a b : Dk) : Prop where
  al : Alike a b
  ca : a.calm
  cb : b.calm
  len : a.kept.length = n
  good : a.good
  goodb : b.good
  cache : a.cache.length ≤ i
theorem again_start {d : Dk} {n : Nat} (h : d.good) (hn : d.kept.length = n) (h1 : 1 ≤ n) (h2 : n ≤ 8192) : Again n 0 (d.cutI []) (Dk.load d.image n) := by
  have e := cut_none (d := d) (ne_nil hn h1)
  rw [e]
  refine ⟨⟨(secs_image h hn).symm, rfl⟩, ⟨rfl, rfl⟩, ⟨rfl, rfl⟩, hn, ⟨h.1, by simp, h.2.2⟩, Dk.load_good _ _ (by rw [Dk.image_len h, hn]) h2, Nat.zero_le _⟩
theorem again_step {n i : Nat} {a b : Dk} {x : Stp} (h : Again n i a b) (h1 : 1 ≤ n) (hf : fineP n x) : twiceB a b x = true ∧ Again n (i + 1) (a.ans x).2.2 (b.ans x).2.2 := by
  have ga := calm_goes h.ca
  have gb := calm_goes h.cb
  obtain ⟨t1, t2, t3, t4, t5, t6, _, t8, t9⟩ := ans_two (x := x) h.al (by rw [h.len]; exact hf) (ne_nil h.len h1) (by rw [ga]) (by rw [gb])
  rw [ga] at t5
  rw [gb] at t6
  exact ⟨t1, t2, ⟨t3, by rw [t5]; exact h.ca.2⟩, ⟨t4, by rw [t6]; exact h.cb.2⟩, by rw [t8]; exact h.len, Dk.ans_good h.good x, Dk.ans_good h.goodb x, by have := h.cache; omega⟩
theorem Again.mono {n i : Nat} {a b : Dk} (h : Again n i a b) : Again n (i + 1) a b := ⟨h.al, h.ca, h.cb, h.len, h.good, h.goodb, Nat.le_succ_of_le h.cache⟩
end Go.WK
