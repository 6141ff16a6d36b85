/- The steps that the laws of the disk go through; what is known of some answers. Plain: no program in sight. -/
import Derived.Test.YtpnccaddbjbfhaaDisk3
import Derived.Test.YtpnccaddbjbfhaaWk10
import Derived.KernelRfl
namespace Go.WK
open Go.RowKit

section ops
variable {m : Bool} {cx : Cx} {fs : Slots} {H : List Chunk} {Q : Post} {ops : Array Oper} {rest : List Oper} {g : Option (Nat × Bool)} {d : Nat} {ty : TypeId} {pos : String} {af : Array Edge}
theorem o_pickT {c x y : Operand} {v u : Value} (hy : ev fs y = some u) (hok : okS cx.n ops fs d g = true) (hc : ev fs c = some (.bool true)) (hx : ev fs x = some v) (k : TriX m cx ops ((d, v) :: fs) H rest Q) : TriX m cx ops fs H (⟨some d, .pick c x y, ty, pos, af, g⟩ :: rest) Q :=
  o_pick (t := true) (u := v) (v := u) hok hc hx hy k
theorem o_pickF {c x y : Operand} {v u : Value} (hx : ev fs x = some u) (hok : okS cx.n ops fs d g = true) (hc : ev fs c = some (.bool false)) (hy : ev fs y = some v) (k : TriX m cx ops ((d, v) :: fs) H rest Q) : TriX m cx ops fs H (⟨some d, .pick c x y, ty, pos, af, g⟩ :: rest) Q :=
  o_pick (t := false) (u := u) (v := v) hok hc hx hy k
theorem o_neqIF {x y : Operand} {t yt : TypeId} {ki : IntKind} {p q : Int} (h : p = q) (hok : okS cx.n ops fs d g = true) (hx : ev fs x = some (.int ki p)) (hy : ev fs y = some (.int ki q)) (k : TriX m cx ops ((d, .bool false) :: fs) H rest Q) :
    TriX m cx ops fs H (⟨some d, .binOp .neq t x y yt, ty, pos, af, g⟩ :: rest) Q := o_neqI hok hx hy (by rw [decide_eq_false (by simpa using h)]; exact k)
theorem o_eqlIT {x y : Operand} {t yt : TypeId} {ki : IntKind} {p q : Int} (h : p = q) (hok : okS cx.n ops fs d g = true) (hx : ev fs x = some (.int ki p)) (hy : ev fs y = some (.int ki q)) (k : TriX m cx ops ((d, .bool true) :: fs) H rest Q) :
    TriX m cx ops fs H (⟨some d, .binOp .eql t x y yt, ty, pos, af, g⟩ :: rest) Q := o_eqlI hok hx hy (by rw [decide_eq_true h]; exact k)
theorem o_neqBF {x y : Operand} {t yt : TypeId} {b c : Bool} (h : b = c) (hok : okS cx.n ops fs d g = true) (ht : cx.P.underlying t = some .bool) (hx : ev fs x = some (.bool b)) (hy : ev fs y = some (.bool c)) (k : TriX m cx ops ((d, .bool false) :: fs) H rest Q) :
    TriX m cx ops fs H (⟨some d, .binOp .neq t x y yt, ty, pos, af, g⟩ :: rest) Q := o_neqB hok ht hx hy (by rw [h, bne_self_eq_false]; exact k)
theorem o_neqAF {x y : Operand} {t yt : TypeId} {ks : List SK} {vs : List Value} (hf : flatB cx.P t = some ks) (h1 : fitsL ks vs = true) (hs : sameL vs vs = true) (hok : okS cx.n ops fs d g = true) (hx : ev fs x = some (.agg vs.toArray)) (hy : ev fs y = some (.agg vs.toArray)) (k : TriX m cx ops ((d, .bool false) :: fs) H rest Q) :
    TriX m cx ops fs H (⟨some d, .binOp .neq t x y yt, ty, pos, af, g⟩ :: rest) Q := o_neqA hf hok hx hy h1 h1 (by rw [hs]; exact k)
theorem o_eqlAT {x y : Operand} {t yt : TypeId} {ks : List SK} {vs : List Value} (hf : flatB cx.P t = some ks) (h1 : fitsL ks vs = true) (hs : sameL vs vs = true) (hok : okS cx.n ops fs d g = true) (hx : ev fs x = some (.agg vs.toArray)) (hy : ev fs y = some (.agg vs.toArray)) (k : TriX m cx ops ((d, .bool true) :: fs) H rest Q) :
    TriX m cx ops fs H (⟨some d, .binOp .eql t x y yt, ty, pos, af, g⟩ :: rest) Q := o_eqlA hf hok hx hy h1 h1 (by rw [hs]; exact k)
theorem same3 (a b c : Int) : sameL [.int .i64 a, .int .i64 b, .int .i64 c] [.int .i64 a, .int .i64 b, .int .i64 c] = true := by simp [sameL, sameV]
theorem o_eqlSame {x y : Operand} {t yt : TypeId} {l l' : List UInt8} (hok : okS cx.n ops fs d g = true) (hx : ev fs x = some (.string (B l))) (hy : ev fs y = some (.string (B l'))) (h : l = l') (k : TriX m cx ops ((d, .bool true) :: fs) H rest Q) :
    TriX m cx ops fs H (⟨some d, .binOp .eql t x y yt, ty, pos, af, g⟩ :: rest) Q := o_eqlT hok hx hy (by rw [decide_eq_true h]; exact k)
end ops

theorem permH (L D : List Chunk) : (L ++ (D ++ [])).Perm (D ++ L) := by rw [List.append_nil]; exact List.perm_append_comm
def ful (x : UInt8) : List UInt8 := List.replicate 512 x
theorem ful_len (x : UInt8) : (ful x).length = 512 := List.length_replicate
theorem ful_snoc (x : UInt8) (i : Nat) : List.replicate (i + 1) x = List.replicate i x ++ [x] := List.replicate_succ'
theorem ful_zero : ful 0 = zsec := rfl

theorem alive_facts : ∃ d1 d2 d3 d4 d5 d6 : Dk, (Dk.new 2).write 0 (ful 1) = (0, d1) ∧ d1.write 0 (ful 2) = (0, d2) ∧ d2.write 1 (ful 3) = (0, d3) ∧ d3.read 0 = (ful 2, 0, d4) ∧ d4.cutI [true, false, true] = d5 ∧ d5.read 0 = (ful 1, 0, d6) ∧
    d4.cache.length = 3 ∧ d6.cache.length = 0 ∧ (d1.good ∧ d2.good ∧ d3.good ∧ d4.good ∧ d5.good) ∧ (d1.cache.length ≤ 100000 ∧ d2.cache.length ≤ 100000 ∧ d3.cache.length ≤ 100000 ∧ d4.cache.length ≤ 100000 ∧ d5.cache.length ≤ 100000) := by
  have l1 := ful_len 1
  have l2 := ful_len 2
  have l3 := ful_len 3
  generalize ful 1 = f1 at *
  generalize ful 2 = f2 at *
  generalize ful 3 = f3 at *
  have lz := zsec_len
  have hn : Dk.new 2 = ⟨[zsec, zsec], [], -1, false, 0, 0, 0⟩ := rfl
  have g0 := Dk.new_good 2 (by decide)
  have e1 : (Dk.new 2).write 0 f1 = (0, ⟨[zsec, zsec], [(0, f1)], -1, false, 0, 1, 0⟩) := by
    rw [hn]; simp [Dk.write, Dk.out, Dk.goes, l1]; rfl
  have g1 := Dk.write_good g0 0 f1
  rw [e1] at g1
  have e2 : Dk.write ⟨[zsec, zsec], [(0, f1)], -1, false, 0, 1, 0⟩ 0 f2 = (0, ⟨[zsec, zsec], [(0, f1), (0, f2)], -1, false, 0, 2, 0⟩) := by
    simp [Dk.write, Dk.out, Dk.goes, l2]; rfl
  have g2 := Dk.write_good g1 0 f2
  rw [e2] at g2
  have e3 : Dk.write ⟨[zsec, zsec], [(0, f1), (0, f2)], -1, false, 0, 2, 0⟩ 1 f3 = (0, ⟨[zsec, zsec], [(0, f1), (0, f2), (1, f3)], -1, false, 0, 3, 0⟩) := by
    simp [Dk.write, Dk.out, Dk.goes, l3]; rfl
  have g3 := Dk.write_good g2 1 f3
  rw [e3] at g3
  have e4 : Dk.read ⟨[zsec, zsec], [(0, f1), (0, f2), (1, f3)], -1, false, 0, 3, 0⟩ 0 = (f2, 0, ⟨[zsec, zsec], [(0, f1), (0, f2), (1, f3)], -1, false, 1, 3, 0⟩) := by
    simp [Dk.read, Dk.out, Dk.goes, Dk.seen, seenF]; rfl
  have g4 := Dk.read_good g3 0
  rw [e4] at g4
  have e5 : Dk.cutI ⟨[zsec, zsec], [(0, f1), (0, f2), (1, f3)], -1, false, 1, 3, 0⟩ [true, false, true] = ⟨[f1, f3], [], -1, false, 1, 3, 0⟩ := by
    simp [Dk.cutI, Dk.cut, layK]
  have g5 := Dk.cut_good g4 [true, false, true]
  have e5' : Dk.cut ⟨[zsec, zsec], [(0, f1), (0, f2), (1, f3)], -1, false, 1, 3, 0⟩ [true, false, true] = ⟨[f1, f3], [], -1, false, 1, 3, 0⟩ := by
    simp [Dk.cut, layK]
  rw [e5'] at g5
  have e6 : Dk.read ⟨[f1, f3], [], -1, false, 1, 3, 0⟩ 0 = (f1, 0, ⟨[f1, f3], [], -1, false, 2, 3, 0⟩) := by
    simp [Dk.read, Dk.out, Dk.goes, Dk.seen, seenF]; rfl
  exact ⟨_, _, _, _, _, _, e1, e2, e3, e4, e5, e6, rfl, rfl, ⟨g1, g2, g3, g4, g5⟩, by simp⟩

/-! ### Steps -/
structure Stp where
  dob : Int
  at_ : Int
  A : Option Addr
  n : Nat
  c : Nat
  N : Int
  KA : Option Addr
  kn : Nat
  kc : Nat
  b : List UInt8
  keep : List Bool
def stepV (s : Stp) : List Value := [.int .i64 s.dob, .int .i64 s.at_, .slice s.A s.n s.c, .int .i64 s.N, .slice s.KA s.kn s.kc]
abbrev stepsV (l : List Stp) : List Value := flatV stepV l
theorem steps_z (l : List Stp) : ∀ s ∈ l, (stepV s).length = 5 := fun _ _ => rfl
theorem steps_length (l : List Stp) : (stepsV l).length = l.length * 5 := flatV_length (steps_z l)
abbrev Stp.nil : Stp := ⟨0, 0, none, 0, 0, 0, none, 0, 0, [], []⟩
/-- What a step's slices hold, whatever becomes of the blocks of 'lent'. -/
def Stp.ok (w : World) (lent : List Nat) (s : Stp) : Prop := Keeps w lent s.A (bytesV s.b) ∧ s.b.length = s.n ∧ Keeps w lent s.KA (boolsV s.keep) ∧ s.keep.length = s.kn
theorem steps_at (l : List Stp) (i : Nat) (h : i < l.length) : ((stepsV l).drop (i * 5)).take 5 = stepV (l.getD i Stp.nil) := flatV_at i Stp.nil (steps_z l) h
theorem steps_get (l : List Stp) (i o : Nat) (h : i < l.length) (ho : o < 5) : (stepsV l)[i * 5 + o]? = (stepV (l.getD i Stp.nil))[o]? := by
  rw [← steps_at l i h, List.getElem?_take_of_lt ho, List.getElem?_drop]
/-- Are steps more than is gone through? -/
def longB (l : List Stp) : Bool := (l.take 201).any (fun s => decide (1024 < s.n) || decide (400 < s.kn)) || decide (200 < l.length)
theorem longB_false {l : List Stp} (h : longB l = false) : l.length ≤ 200 ∧ ∀ s ∈ l, s.n ≤ 1024 ∧ s.kn ≤ 400 := by
  simp only [longB, Bool.or_eq_false_iff, decide_eq_false_iff_not] at h
  refine ⟨by omega, fun s hs => ?_⟩
  rw [List.take_of_length_le (by omega)] at h
  have h1 := h.1
  rw [List.any_eq_false] at h1
  have := h1 s hs
  simp at this
  omega
theorem longB_at {l : List Stp} {i : Nat} (h : i < l.length) (h2 : i ≤ 200) (h3 : 1024 < (l.getD i Stp.nil).n ∨ 400 < (l.getD i Stp.nil).kn) : longB l = true := by
  have hm : l.getD i Stp.nil ∈ l.take 201 := by
    have e : l.getD i Stp.nil = l[i] := by simp [List.getD, h]
    rw [e]
    exact List.mem_take_iff_getElem.2 ⟨i, by omega, rfl⟩
  simp only [longB, Bool.or_eq_true]
  left
  rw [List.any_eq_true]
  refine ⟨_, hm, ?_⟩
  simpa using h3
theorem longB_none {l : List Stp} (h : ∀ s ∈ l.take 201, ¬ (1024 < s.n ∨ 400 < s.kn)) : longB l = decide (200 < l.length) := by
  have : (l.take 201).any (fun s => decide (1024 < s.n) || decide (400 < s.kn)) = false := by
    rw [List.any_eq_false]
    intro s hs
    have := h s hs
    simp; omega
  rw [longB, this, Bool.false_or]
theorem take_snocS (l : List Stp) (k : Nat) (h : k < l.length) : l.take (k + 1) = l.take k ++ [l.getD k Stp.nil] := by
  rw [List.take_succ_eq_append_getElem h]; simp [List.getD, h]
theorem take_in {l : List Stp} {q : Nat} (h : l.length ≤ q ∨ 201 ≤ q) {s : Stp} (hs : s ∈ l.take 201) : s ∈ l.take q := by
  rcases h with h | h
  · rw [List.take_of_length_le h]; exact List.mem_of_mem_take hs
  · exact List.Sublist.subset (List.take_sublist_take_left h) hs
/-- A call on a disk. -/
def Dk.step (d : Dk) (x : Stp) : Dk := if x.dob = 0 then (d.read x.at_).2.2 else if x.dob = 1 then (d.write x.at_ x.b).2 else if x.dob = 2 then d.sync.2 else if x.dob = 3 then d.arm x.N else if x.dob = 4 then d.cut x.keep else d
theorem Dk.step_good {d : Dk} (h : d.good) (x : Stp) : (d.step x).good := by
  unfold Dk.step
  split
  · exact Dk.read_good h _
  · split
    · exact Dk.write_good h _ _
    · split
      · exact Dk.sync_good h
      · split
        · exact Dk.arm_good h _
        · split
          · exact Dk.cut_good h _
          · exact h
theorem permM (L D R : List Chunk) : (L ++ (D ++ R)).Perm (D ++ (L ++ R)) := by
  rw [← List.append_assoc, ← List.append_assoc]
  exact List.perm_append_comm.append_right R
theorem Keeps.callM {cx : Cx} {L D R : List Chunk} {A : Option Addr} {xs : List Value} {w1 : World} {lent : List Nat} (h : Keeps cx.w0 cx.lent A xs) (hs : Sat cx (L ++ (D ++ R)) w1) (hl : ∀ k ∈ lent, ∃ c ∈ D, c.fp k) : Keeps w1 lent A xs :=
  Keeps.call h hs hl (fun _ hc => List.mem_append_right _ (List.mem_append_left _ hc))
theorem ok_read {m : Rk} {d : Dk} (h : m.ok d) (at_ : Int) : m.ok (d.read at_).2.2 := by
  unfold Dk.read
  split
  · exact h
  · split
    · unfold Rk.ok; simp only [d.goes_kept, d.goes_cache]; exact h
    · unfold Rk.ok; rw [d.goes_kept, d.goes_cache]; exact h
theorem Dk.read_len {d : Dk} (h : d.good) (at_ : Int) : (d.read at_).1.length ≤ 512 := by
  unfold Dk.read
  split
  · simp
  · rename_i ho
    unfold Dk.out at ho
    split
    · rw [Dk.seen_len h (by omega)]; exact Nat.le_refl _
    · simp
theorem Stp.call {cx : Cx} {L D R : List Chunk} {x : Stp} {w1 : World} {lent : List Nat} (h : x.ok cx.w0 cx.lent) (hs : Sat cx (L ++ (D ++ R)) w1) (hl : ∀ k ∈ lent, ∃ c ∈ D, c.fp k) : x.ok w1 lent := ⟨h.1.callM hs hl, h.2.1, h.2.2.1.callM hs hl, h.2.2.2⟩
theorem Dk.read_kept (d : Dk) (at_ : Int) : (d.read at_).2.2.kept = d.kept := by
  unfold Dk.read; split; rfl; split; exact d.goes_kept; exact d.goes_kept
theorem Dk.read_cache (d : Dk) (at_ : Int) : (d.read at_).2.2.cache = d.cache := by
  unfold Dk.read; split; rfl; split; exact d.goes_cache; exact d.goes_cache
theorem Dk.write_kept (d : Dk) (at_ : Int) (b : List UInt8) : (d.write at_ b).2.kept = d.kept := by
  unfold Dk.write; split; rfl; split; rfl; split; exact d.goes_kept; exact d.goes_kept
theorem Dk.write_cache (d : Dk) (at_ : Int) (b : List UInt8) : (d.write at_ b).2.cache.length ≤ d.cache.length + 1 := by
  unfold Dk.write; split; exact Nat.le_succ _; split; exact Nat.le_succ _; split
  · simp
  · rw [d.goes_cache]; exact Nat.le_succ _
theorem Dk.sync_kept (d : Dk) : d.sync.2.kept.length = d.kept.length := by
  unfold Dk.sync; split; exact lay_length _ _; rw [d.goes_kept]
theorem Dk.sync_cache (d : Dk) : d.sync.2.cache.length ≤ d.cache.length := by
  unfold Dk.sync; split; exact Nat.zero_le _; rw [d.goes_cache]; exact Nat.le_refl _
theorem Dk.step_kept (d : Dk) (x : Stp) : (d.step x).kept.length = d.kept.length := by
  unfold Dk.step
  split
  · rw [d.read_kept]
  · split
    · rw [d.write_kept]
    · split
      · exact d.sync_kept
      · split
        · unfold Dk.arm; split <;> rfl
        · split
          · exact layK_length _ _ _
          · rfl
theorem Dk.step_cache (d : Dk) (x : Stp) : (d.step x).cache.length ≤ d.cache.length + 1 := by
  unfold Dk.step
  split
  · rw [d.read_cache]; exact Nat.le_succ _
  · split
    · exact d.write_cache _ _
    · split
      · exact Nat.le_trans d.sync_cache (Nat.le_succ _)
      · split
        · unfold Dk.arm; split <;> exact Nat.le_succ _
        · split
          · exact Nat.zero_le _
          · exact Nat.le_succ _
theorem getD_memS (l : List Stp) (k : Nat) (h : k < l.length) : l.getD k Stp.nil ∈ l := by simp [List.getD, h]
theorem ne_nil {d : Dk} {n : Nat} (h : d.kept.length = n) (h1 : 1 ≤ n) : d.kept ≠ [] := fun e => by rw [e] at h; simp at h; omega
theorem lend_two {D1 D2 : List Chunk} {l1 l2 : List Nat} (h1 : ∀ c ∈ D1, ∀ k, c.fp k → k ∈ l1) (h2 : ∀ c ∈ D2, ∀ k, c.fp k → k ∈ l2) : ∀ c ∈ D1 ++ D2, ∀ k, c.fp k → k ∈ l1 ++ l2 := fun c hc k hk => by
  rcases List.mem_append.1 hc with hc | hc
  · exact List.mem_append_left _ (h1 c hc k hk)
  · exact List.mem_append_right _ (h2 c hc k hk)
theorem lend_two' {D1 D2 : List Chunk} {l1 l2 : List Nat} (h1 : ∀ k ∈ l1, ∃ c ∈ D1, c.fp k) (h2 : ∀ k ∈ l2, ∃ c ∈ D2, c.fp k) : ∀ k ∈ l1 ++ l2, ∃ c ∈ D1 ++ D2, c.fp k := fun k hk => by
  rcases List.mem_append.1 hk with hk | hk
  · obtain ⟨c, hc, hck⟩ := h1 k hk; exact ⟨c, List.mem_append_left _ hc, hck⟩
  · obtain ⟨c, hc, hck⟩ := h2 k hk; exact ⟨c, List.mem_append_right _ hc, hck⟩
theorem byte_inc (b : UInt8) : Value.int .u8 (IntKind.u8.wrap ((b.toNat : Int) + 1)) = byteV (b + 1) := by
  have := b.toNat_lt
  simp [byteV, IntKind.wrap, IntKind.bits, IntKind.signed, UInt8.toNat_add]
/-- A call on two disks: is it done on both, and do they answer the same? -/
def Dk.ans (d : Dk) (x : Stp) : Int × List UInt8 × Dk := if x.dob = 0 then ((d.read x.at_).2.1, (d.read x.at_).1, (d.read x.at_).2.2) else if x.dob = 1 then ((d.write x.at_ x.b).1, [], (d.write x.at_ x.b).2) else (d.syncI.1, [], d.syncI.2)
def twiceB (a b : Dk) (x : Stp) : Bool := decide ((a.ans x).1 = 0) && decide ((b.ans x).1 = 0) && decide ((a.ans x).2.1 = (b.ans x).2.1)
theorem Dk.syncI_good {d : Dk} (h : d.good) : d.syncI.2.good := by
  unfold Dk.syncI
  split
  · exact h
  · exact Dk.sync_good h
theorem Dk.ans_good {d : Dk} (h : d.good) (x : Stp) : (d.ans x).2.2.good := by
  unfold Dk.ans
  split
  · exact Dk.read_good h _
  · split
    · exact Dk.write_good h _ _
    · exact Dk.syncI_good h
end Go.WK
