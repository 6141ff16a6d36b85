/- Lists of pieces of one length in memory; operations on arrays, pointers, rows that are emptied; disks: their state, and what is done with it. Plain: no program in sight. -/
import Derived.Test.YtpnccaddbjbfhaaWk9
namespace Go.WK
open Go.RowKit

/-! ### Pieces of one length, side by side -/
section
variable {α : Type} {f : α → List Value} {z : Nat}
def flatV (f : α → List Value) : List α → List Value
  | [] => []
  | a :: l => f a ++ flatV f l
theorem flatV_length : ∀ {l : List α}, (∀ a ∈ l, (f a).length = z) → (flatV f l).length = l.length * z
  | [], _ => by simp [flatV]
  | a :: l, h => by
    have h1 := h a (by simp)
    have h2 := flatV_length (l := l) (fun b hb => h b (List.mem_cons_of_mem _ hb))
    simp [flatV, h1, h2, Nat.add_mul]; omega
theorem flatV_append : ∀ {l m : List α}, flatV f (l ++ m) = flatV f l ++ flatV f m
  | [], m => rfl
  | a :: l, m => by simp [flatV, flatV_append (l := l)]
theorem flatV_drop : ∀ {l : List α} (i : Nat), (∀ a ∈ l, (f a).length = z) → (flatV f l).drop (i * z) = flatV f (l.drop i)
  | [], i, _ => by simp [flatV]
  | a :: l, 0, _ => by simp
  | a :: l, i + 1, h => by
    have h1 := h a (by simp)
    rw [Nat.add_mul, Nat.one_mul, Nat.add_comm, ← List.drop_drop]
    have h2 : (flatV f (a :: l)).drop z = flatV f l := by
      simp only [flatV]
      rw [List.drop_append_of_le_length (by omega), List.drop_of_length_le (by omega), List.nil_append]
    rw [h2]
    exact flatV_drop i (fun b hb => h b (List.mem_cons_of_mem _ hb))
theorem flatV_take : ∀ {l : List α} (i : Nat), (∀ a ∈ l, (f a).length = z) → (flatV f l).take (i * z) = flatV f (l.take i)
  | [], i, _ => by simp [flatV]
  | a :: l, 0, _ => by simp [flatV]
  | a :: l, i + 1, h => by
    have h1 := h a (by simp)
    have h2 := flatV_take (l := l) i (fun b hb => h b (List.mem_cons_of_mem _ hb))
    simp only [flatV, List.take_succ_cons]
    rw [List.take_append, List.take_of_length_le (by rw [Nat.add_mul]; omega), h1, show (i + 1) * z - z = i * z by rw [Nat.add_mul]; omega, h2]
theorem flatV_at {l : List α} (i : Nat) (d : α) (h : ∀ a ∈ l, (f a).length = z) (hi : i < l.length) : ((flatV f l).drop (i * z)).take z = f (l.getD i d) := by
  rw [flatV_drop i h, List.drop_eq_getElem_cons hi]
  have h1 := h _ (List.getElem_mem hi)
  simp only [flatV]
  rw [List.take_append_of_le_length (by omega), List.take_of_length_le (by omega)]
  simp [List.getD, hi]
theorem flatV_set {l : List α} (i : Nat) (a : α) (h : ∀ a ∈ l, (f a).length = z) (ha : (f a).length = z) (hi : i < l.length) : setL (flatV f l) (i * z) (f a) = flatV f (l.set i a) := by
  have hl := flatV_length h
  have hz : i * z + z ≤ l.length * z := by have := Nat.mul_le_mul_right z hi; rw [Nat.succ_mul] at this; exact this
  rw [setL_eq _ _ _ (by omega), List.set_eq_take_append_cons_drop, if_pos hi, flatV_append, ← flatV_take i h]
  rw [ha, show i * z + z = (i + 1) * z by rw [Nat.add_mul]; omega, flatV_drop (i + 1) h, List.append_assoc]
  rfl
theorem flatV_one : ∀ {l : List α}, (∀ a ∈ l, ∀ u ∈ f a, u.oneCell' = true) → ∀ u ∈ flatV f l, u.oneCell' = true
  | [], _, u, hu => by simp [flatV] at hu
  | a :: l, h, u, hu => by
    rcases List.mem_append.1 hu with hu | hu
    · exact h a (by simp) u hu
    · exact flatV_one (l := l) (fun b hb => h b (List.mem_cons_of_mem _ hb)) u hu
end
theorem allOne_of {vs : List Value} (h : ∀ u ∈ vs, u.oneCell' = true) : allOne vs = true := by
  induction vs with
  | nil => rfl
  | cons v vs ih => simp [allOne, h v (by simp), ih (fun u hu => h u (List.mem_cons_of_mem _ hu))]
theorem allOne_bytes (l : List UInt8) : allOne (bytesV l) = true := allOne_of (bytesV_one l)

/-! ### Memory that is read, another way -/
/-- What is read while the blocks of 'lent' may change. -/
def Keeps (w : World) (lent : List Nat) (A : Option Addr) (xs : List Value) : Prop := ∀ w', Chg lent w w' → Rd w' A xs
theorem Keeps.of {w : World} {A : Option Addr} {xs : List Value} (h : Rd w A xs) : Keeps w [] A xs := fun _ hx => h.ext hx
theorem Keeps.rd {w : World} {l : List Nat} {A : Option Addr} {xs : List Value} (h : Keeps w l A xs) : Rd w A xs := h w (Chg.refl _ _)
theorem Keeps.rdS {cx : Cx} {H : List Chunk} {A : Option Addr} {xs : List Value} (h : Keeps cx.w0 cx.lent A xs) : RdS cx H A xs := fun _ hs => h _ hs.chg
theorem Keeps.nil (w : World) (l : List Nat) (A : Option Addr) : Keeps w l A [] := fun _ _ => Rd.nil _ _
theorem Chg.trans' {l l' : List Nat} {a b c : World} (h : Chg l a b) (k : Chg l' b c) (hl : ∀ k, k < a.heap.size → k ∈ l' → k ∈ l) : Chg l a c :=
  ⟨k.os.trans h.os, k.tape.trans h.tape, k.output.trans h.output, Nat.le_trans h.size k.size, fun i hi hn => (k.block i (Nat.lt_of_lt_of_le hi h.size) (fun hm => hn (hl i hi hm))).trans (h.block i hi hn)⟩
/-- .. at a call that is lent chunks. -/
theorem Keeps.call {cx : Cx} {H D : List Chunk} {A : Option Addr} {xs : List Value} {w1 : World} {lent : List Nat} (h : Keeps cx.w0 cx.lent A xs) (hs : Sat cx H w1) (hl : ∀ k ∈ lent, ∃ c ∈ D, c.fp k) (hD : ∀ c ∈ D, c ∈ H) : Keeps w1 lent A xs := fun w' hx => by
  refine h w' (hs.chg.trans' hx fun k hk hkl => ?_)
  obtain ⟨c, hc, hck⟩ := hl k hkl
  rcases hs.fresh c (hD c hc) k hck with h1 | h1
  · omega
  · exact h1
theorem own_rd {w : World} {A : Option Addr} {n c e s : Nat} {xs : List Value} (ho : w.ownsRow 0 e s (.slice A n c) n xs) : Rd w A xs := fun j u hj => by
  cases A with
  | none =>
    obtain ⟨hl, h2⟩ := ho
    rcases h2 with ⟨h3, h4⟩ | ⟨g, cap, cur, hv, _⟩
    · subst h4; have : xs = [] := List.eq_nil_of_length_eq_zero (by simpa using hl)
      subst this; simp at hj
    · injection hv with h5; cases h5
  | some a =>
    have hform := ho.2
    rcases hform with ⟨h3, _⟩ | ⟨g, cap, cur, hv, _⟩
    · injection h3 with h5; cases h5
    · injection hv with h5
      injection h5 with h5
      subst h5
      exact ⟨_, rfl, ho.cells (g := g) rfl j u hj⟩
/-- .. of a row that is not lent. -/
theorem Keeps.row {cx : Cx} {H D F : List Chunk} {A : Option Addr} {n c e s : Nat} {xs : List Value} {w1 : World} {lent : List Nat} (hs : Sat cx H w1) (hp : H.Perm (D ++ F)) (hl : ∀ k ∈ lent, ∃ c ∈ D, c.fp k) (hF : Go.WK.row (.slice A n c) e s n xs ∈ F) : Keeps w1 lent A xs := fun w' hx => by
  have h1 := hs.perm hp
  have h2 := List.pairwise_append.1 h1.apart
  have h3 : (Go.WK.row (.slice A n c) e s n xs).holds w' := by
    refine (Go.WK.row (.slice A n c) e s n xs).stab w1 w' (h1.holds _ (List.mem_append_right _ hF)) (fun k hk => hx.block k (h1.lt (List.mem_append_right _ hF) hk) (fun hkl => ?_))
    obtain ⟨d, hd, hdk⟩ := hl k hkl
    exact h2.2.2 d hd _ hF k hdk hk
  exact own_rd h3
theorem RdS.off {cx : Cx} {H : List Chunk} {A : Option Addr} {xs : List Value} (h : RdS cx H A xs) (k : Nat) : RdS cx H (A.map (·.add k)) (xs.drop k) := fun w hs j u hj => by
  rw [List.getElem?_drop] at hj
  obtain ⟨a, rfl, hc⟩ := h w hs _ u hj
  exact ⟨_, rfl, by rw [add_add]; exact hc⟩

section ops
variable {m : Bool} {cx : Cx} {fs : Slots} {H : List Chunk} {Q : Post} {ops : Array Oper} {rest : List Oper} {g : Option (Nat × Bool)} {d : Nat} {ty : TypeId} {pos : String} {af : Array Edge}
/-- A scalar out of memory that is read, at a plain address. -/
theorem o_loadP {x : Operand} {t b o : Nat} {xs : List Value} {v : Value} (ht : aggB cx.P t = some false) (hok : okS cx.n ops fs d g = true) (hx : ev fs x = some (.pointer (some ⟨b, o, none⟩))) (hr : RdS cx H (some ⟨b, 0, none⟩) xs) (hv : xs[o]? = some v)
    (k : TriX m cx ops ((d, v) :: fs) H rest Q) : TriX m cx ops fs H (⟨some d, .load t x, ty, pos, af, g⟩ :: rest) Q :=
  o_loadR (A := some ⟨b, 0, none⟩) (kk := o) ht hok (by rw [hx, ptrAt, Option.map_some, add_lit, Nat.zero_add]) hr hv k
theorem o_loadPA {x : Operand} {t b o z : Nat} {xs vs : List Value} (ht : aggB cx.P t = some true) (hz : szB cx.P t = some z) (hok : okS cx.n ops fs d g = true) (hx : ev fs x = some (.pointer (some ⟨b, o, none⟩))) (hr : RdS cx H (some ⟨b, 0, none⟩) xs) (hv : (xs.drop o).take z = vs) (hl : vs.length = z) (hpos : 0 < z)
    (k : TriX m cx ops ((d, .agg vs.toArray) :: fs) H rest Q) : TriX m cx ops fs H (⟨some d, .load t x, ty, pos, af, g⟩ :: rest) Q :=
  o_loadRA (A := some ⟨b, 0, none⟩) (kk := o) ht hz hok (by rw [hx, ptrAt, Option.map_some, add_lit, Nat.zero_add]) hr hv hl hpos k
/-- Is a pointer nil? -/
theorem o_eqlNil {x y : Operand} {t yt : TypeId} {e : TypeId} {p : Option Addr} (ht : cx.P.underlying t = some (.pointer e)) (hok : okS cx.n ops fs d g = true) (hx : ev fs x = some (.pointer p)) (hy : ev fs y = some (.pointer none)) (k : TriX m cx ops ((d, .bool p.isNone) :: fs) H rest Q) :
    TriX m cx ops fs H (⟨some d, .binOp .eql t x y yt, ty, pos, af, g⟩ :: rest) Q :=
  triL_val _ hok (fun a w ha _ => run_bin (ha.eval hx) (ha.eval hy) (eqGuard_at_pointer _ _ _ _ _ _) (run_eql_pointer_nil w t p (by rw [ht, Program.pointee, ht]))) k
theorem o_neqNil {x y : Operand} {t yt : TypeId} {e : TypeId} {p : Option Addr} (ht : cx.P.underlying t = some (.pointer e)) (hok : okS cx.n ops fs d g = true) (hx : ev fs x = some (.pointer p)) (hy : ev fs y = some (.pointer none)) (k : TriX m cx ops ((d, .bool (!p.isNone)) :: fs) H rest Q) :
    TriX m cx ops fs H (⟨some d, .binOp .neq t x y yt, ty, pos, af, g⟩ :: rest) Q :=
  triL_val _ hok (fun a w ha _ => run_bin (ha.eval hx) (ha.eval hy) (eqGuard_at_pointer _ _ _ _ _ _) (run_neq_pointer_nil w t p (by rw [ht, Program.pointee, ht]))) k
/-- The array at which a slice points. -/
theorem o_arrP {x : Operand} {t e z n c : Nat} {A : Option Addr} (ht : cx.P.underlying t = some (.array z e)) (hok : okS cx.n ops fs d g = true) (hx : ev fs x = some (.slice A n c)) (hn : z ≤ n) (k : TriX m cx ops ((d, ptrAt A 0) :: fs) H rest Q) :
    TriX m cx ops fs H (⟨some d, .sliceToArrayPointer t x, ty, pos, af, g⟩ :: rest) Q :=
  triL_val _ hok (fun a w ha _ => by
    have e1 : ptrAt A 0 = .pointer A := by cases A <;> simp [ptrAt, Addr.add]
    rw [e1]
    simp [execOp, ha.eval hx, run_arrayAt w t e z A n c ht hn]) k
/-- An array as a slice. -/
theorem o_sliceArr {x : Operand} {t e z : Nat} {a : Addr} (ht : cx.P.underlying t = some (.array z e)) (hs : szB cx.P e = some 1) (hok : okS cx.n ops fs d g = true) (hx : ev fs x = some (.pointer (some a))) (k : TriX m cx ops ((d, .slice (some a) z z) :: fs) H rest Q) :
    TriX m cx ops fs H (⟨some d, .slice t x none none none, ty, pos, af, g⟩ :: rest) Q :=
  triL_val _ hok (fun ac w ha _ => by
    have h1 : cx.P.arrayLen t = z := by simp [Program.arrayLen, ht]
    have h2 : cx.P.elem t = e := by simp [Program.elem, ht]
    have h3 := run_sliceAt_array_all (P := cx.P) w t a (by rw [ht, h1, h2])
    rw [h1, h2, run_sizeB hs] at h3
    simp only [execOp, ha.eval hx, Option.map_none, Sem.run_bind, h3, Result.andThen_ok]
    have h4 : slicedAt a 0 z z 1 = .slice (some a) z z := by
      unfold slicedAt
      split <;> simp [Addr.add]
    rw [h4]
    rfl) k
theorem o_sliceArrR {x : Operand} {t e z kk : Nat} {A : Option Addr} {xs : List Value} (ht : cx.P.underlying t = some (.array z e)) (hs : szB cx.P e = some 1) (hok : okS cx.n ops fs d g = true) (hx : ev fs x = some (ptrAt A kk)) (hr : RdS cx H A xs) (hl : 0 < xs.length)
    (k : TriX m cx ops ((d, .slice (A.map (·.add kk)) z z) :: fs) H rest Q) : TriX m cx ops fs H (⟨some d, .slice t x none none none, ty, pos, af, g⟩ :: rest) Q := by
  cases m with
  | false =>
    intro ac w ha hw
    obtain ⟨a0, rfl, _⟩ := hr w hw 0 _ (List.getElem?_eq_getElem hl)
    exact o_sliceArr (a := a0.add kk) ht hs hok hx k ac w ha hw
  | true =>
    exact triL_val _ hok (fun ac w ha hw => by
      obtain ⟨a0, rfl, _⟩ := hr w hw 0 _ (List.getElem?_eq_getElem hl)
      have h1 : cx.P.arrayLen t = z := by simp [Program.arrayLen, ht]
      have h2 : cx.P.elem t = e := by simp [Program.elem, ht]
      have h3 := run_sliceAt_array_all (P := cx.P) w t (a0.add kk) (by rw [ht, h1, h2])
      rw [h1, h2, run_sizeB hs] at h3
      simp only [execOp, ha.eval hx, ptrAt, Option.map_some, Option.map_none, Sem.run_bind, h3, Result.andThen_ok]
      have h4 : slicedAt (a0.add kk) 0 z z 1 = .slice (some (a0.add kk)) z z := by
        unfold slicedAt
        split <;> simp [Addr.add]
      rw [h4]
      rfl) k
/-- A row emptied: noughts in every place. -/
theorem o_clear {x : Operand} {t e i n c s : Nat} {A : Option Addr} {z : Value} {xs : List Value} (ht : cx.P.underlying t = some (.slice e)) (hi : (cx.P.info? e).map (fun i => (i.zero, i.size)) = some (some z, s)) (hzs : z.cells.size = s) (hpos : 0 < s) (hz1 : ∀ u ∈ z.cells.toList, u.oneCell' = true) (hn : Nth H i (row (.slice A n c) e s n xs)) (hok : okW ops fs g = true) (hx : ev fs x = some (.slice A n c))
    (k : ∀ ys, TriX false cx ops fs (setH H i (row (.slice A n c) e s n ys)) rest Q) : TriX false cx ops fs H (⟨none, .call ⟨.builtin .clear, #[x], #[t]⟩, ty, pos, af, g⟩ :: rest) Q :=
  triL_gen (J := List Value) (fun _ => .tuple #[]) (fun ys => setH H i (row (.slice A n c) e s n ys)) (fun _ => True) (okW_want hok) (fun e he => by cases he)
    (fun a w ha hw => by
      have ho : w.ownsRow 0 e s (.slice A n c) n xs := hw.holds _ hn.mem
      obtain ⟨ti, hti, hz'⟩ := Option.map_eq_some_iff.1 hi
      simp only [Prod.mk.injEq] at hz'
      have hzv : ∀ w : World, (zeroValue e).run cx.P w = .ok z w := fun w => by simp [zeroValue, typeInfo, hti, hz'.1]
      have hcall : ∀ {r : Result Next}, (builtin .clear #[t] ty (([x] : List Operand).toArray.map fun | .const _ => true | _ => false) #[.slice A n c]).run cx.P w = r → (execOp a.eval ⟨none, .call ⟨.builtin .clear, #[x], #[t]⟩, ty, pos, af, g⟩).run cx.P w = r := fun hr =>
        run_call_builtin (xs := [x]) (vs := [.slice A n c]) ha (by simp [evs, hx]) hr
      cases n with
      | zero =>
        refine ⟨xs, w, .inl (hcall (by cases A <;> simp [builtin, Builtin.clear_, run_underlying ht])), ?_, trivial⟩
        obtain ⟨l1, l2, rfl, h2⟩ := hn.split (row (.slice A 0 c) e s 0 xs)
        rw [h2]; exact hw
      | succ n =>
        have hxs : xs.length = (n + 1) * s := ho.1
        have hmul : s ≤ (n + 1) * s := by rw [Nat.add_mul]; omega
        obtain ⟨gg, cur, rfl, hh, hnc, hcs, htk⟩ := own_some ho (by omega)
        have hys : (Builtin.zeroCells z.cells (n + 1)).toList.length = (n + 1) * s := by simp [Builtin.zeroCells, hzs]
        have hone : ∀ u ∈ (Builtin.zeroCells z.cells (n + 1)).toList, u.oneCell' = true := fun u hu => by
          simp only [Builtin.zeroCells, Array.toList_map, List.mem_map] at hu
          obtain ⟨q, _, rfl⟩ := hu
          have hq : q % z.cells.size < z.cells.size := Nat.mod_lt _ (by omega)
          refine hz1 _ ?_
          rw [getElem!_pos z.cells _ hq]
          simp
        have hcur : (n + 1) * s ≤ cur.size := by rw [hcs]; exact Nat.mul_le_mul_right s hnc
        have hst := run_storeCells_at cx.P gg 0 e (Builtin.zeroCells z.cells (n + 1)).toList 0 cur w hh (by omega) hone
        simp only [Nat.add_zero, List.take_zero, List.nil_append, Nat.zero_add, hys] at hst
        refine ⟨(Builtin.zeroCells z.cells (n + 1)).toList, _, .inl (hcall (r := .ok (.value (.tuple #[])) (w.setRow gg ((Builtin.zeroCells z.cells (n + 1)).toList ++ cur.toList.drop ((n + 1) * s)).toArray)) ?_), ?_, trivial⟩
        · simp [builtin, Builtin.clear_, run_underlying ht, hzv] at hst ⊢
          rw [hst]
          rfl
        · have hfpc : ∀ k, (row (.slice (some ⟨gg, 0, none⟩) (n + 1) c) e s (n + 1) xs).fp k ↔ k = gg := fun k => by
            show (Value.slice (some ⟨gg, 0, none⟩) (n + 1) c).ownBlock = some k ↔ k = gg
            simp [Value.ownBlock, eq_comm]
          refine hw.change hn _ ?_ rfl rfl rfl (by simp) (fun k _ hk => heap_setRow_other _ (fun e => hk ((hfpc k).2 e))) (fun k hk => .inl hk)
          refine ⟨hys, .inr ⟨gg, c, _, rfl, Nat.zero_le _, heap_setRow_same _ hh, hnc, ?_, by simp [hys, hcs]; omega, by simp [hys]⟩⟩
          rcases ho.2 with ⟨h3, _⟩ | ⟨_, cap, _, hv2, _, _, _, hcm, _⟩
          · cases h3
          · injection hv2 with _ _ h7; subst h7; exact hcm) (fun ys _ => k ys)
/-- A store over a whole box. -/
theorem o_storeW {x y : Operand} {t bt b i z : Nat} {cs vs : List Value} {v : Value} (hz : szB cx.P t = some z) (hn : Nth H i (box b bt cs)) (hok : okW ops fs g = true) (hx : ev fs x = some (.pointer (some ⟨b, 0, none⟩))) (hy : ev fs y = some v)
    (hv : v.cells = vs.toArray) (hl : vs.length = z) (hc : cs.length = z) (h1 : ∀ u ∈ vs, u.oneCell' = true) (k : TriX false cx ops fs (setH H i (box b bt vs)) rest Q) : TriX false cx ops fs H (⟨none, .store t x y, ty, pos, af, g⟩ :: rest) Q :=
  o_store hz hn hok hx hy hv hl (by omega) (allOne_of h1) (by
    have e : setL cs 0 vs = vs := by rw [setL_eq _ _ _ (by omega), List.drop_of_length_le (by omega)]; simp
    rw [e]; exact k)
end ops
theorem made_flat {α : Type} {f : α → List Value} {z n : Nat} {a : α} (h : (f a).length = z) : (madeCells (f a).toArray (n * z)).toList = flatV f (List.replicate n a) := by
  have hz : ∀ b ∈ List.replicate n a, (f b).length = z := fun b hb => by rw [List.eq_of_mem_replicate hb]; exact h
  have hl := flatV_length hz
  rw [List.length_replicate] at hl
  apply List.ext_getElem?
  intro i
  rcases Nat.lt_or_ge i (n * z) with hi | hi
  · have hzp : 0 < z := by
      rcases Nat.eq_zero_or_pos z with h0 | h0
      · subst h0; simp at hi
      · exact h0
    have hq : i / z < n := Nat.div_lt_of_lt_mul (by rw [Nat.mul_comm]; exact hi)
    have hm : i % z < z := Nat.mod_lt _ hzp
    have h1 := flatV_at (i / z) a hz (by rw [List.length_replicate]; exact hq)
    have h2 : (flatV f (List.replicate n a))[i]? = (f a)[i % z]? := by
      have h3 : ((List.replicate n a).getD (i / z) a) = a := by simp [List.getD, List.getElem?_replicate, hq]
      rw [h3] at h1
      rw [← h1, List.getElem?_take_of_lt hm, List.getElem?_drop, Nat.mul_comm, Nat.div_add_mod]
    rw [h2]
    simp only [madeCells, Array.toList_map, List.getElem?_map, Array.toList_range, List.getElem?_range hi, Option.map_some, List.size_toArray, h]
    rw [getElem!_pos _ _ (by simpa [h] using hm), List.getElem?_eq_getElem (by omega)]
    simp
  · rw [List.getElem?_eq_none (by simp [madeCells]; omega), List.getElem?_eq_none (by omega)]
end Go.WK
