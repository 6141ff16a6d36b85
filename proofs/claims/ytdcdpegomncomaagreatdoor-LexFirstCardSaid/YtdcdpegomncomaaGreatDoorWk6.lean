/- The walk's own frame, sixth part: slices written out, copy, stores into a row, results that lie in new rows. Plain lemmas over any program. -/
import Derived.Test.YtdcdpegomncomaaGreatDoorWk5
namespace Go.WK
open Go.RowKit

/-- A block of which nothing is asked but what it holds. -/
def frz (g : Nat) (t : TypeId) (cs : List Value) : Chunk where
  fp k := k = g
  holds w := ∃ fr, w.heap[g]? = some (.cells cs.toArray t fr)
  lt w k h hk := by
    obtain ⟨fr, h⟩ := h
    subst hk
    rcases Nat.lt_or_ge k w.heap.size with hlt | hge
    · exact hlt
    · rw [Array.getElem?_eq_none hge] at h; cases h
  stab w w' h hk := by obtain ⟨fr, h⟩ := h; exact ⟨fr, by rw [hk g rfl]; exact h⟩

theorem RdS.frz {cx : Cx} {H : List Chunk} {i g t : Nat} {cs : List Value} (hn : Nth H i (frz g t cs)) : RdS cx H (some ⟨g, 0, none⟩) cs := fun w hs j u hj => by
  obtain ⟨fr, hb⟩ : ∃ fr, w.heap[g]? = some (.cells cs.toArray t fr) := hs.holds _ hn.mem
  exact ⟨_, rfl, by rw [add_lit, Nat.zero_add, cell_of_row w g j cs.toArray t fr hb]; simpa using hj⟩

/-- Operands with places, evaluated. -/
def evp (fs : Slots) : List (Nat × Operand) → Option (List (Nat × Value))
  | [] => some []
  | (i, x) :: r => match ev fs x with
    | some v => match evp fs r with
      | some vs => some ((i, v) :: vs)
      | none => none
    | none => none
theorem Has.evp {n ds a} {fs : Slots} (h : Has n ds fs a) : ∀ {xs : List (Nat × Operand)} {vs : List (Nat × Value)}, evp fs xs = some vs → xs.map (fun p => (p.1, a.eval p.2)) = vs
  | [], vs, hx => by simp [WK.evp] at hx; simp [hx]
  | (i, x) :: r, vs, hx => by
    unfold WK.evp at hx
    cases h1 : ev fs x with
    | none => simp [h1] at hx
    | some v =>
      cases h2 : WK.evp fs r with
      | none => simp [h1, h2] at hx
      | some us =>
        simp only [h1, h2, Option.some.injEq] at hx
        subst hx
        simp [h.eval h1, h.evp h2]

def cellsAt (s : Nat) : Nat → List (Nat × Value) → Option (List Value)
  | _, [] => some []
  | k, (i, v) :: r => bif Nat.beq i k && Nat.beq v.cells.toList.length s then
      (match cellsAt s (k + 1) r with | some l => some (v.cells.toList ++ l) | none => none) else none

theorem foldl_set (l : List Value) : ∀ (off j : Nat) (cs : Array Value), off + j + l.length ≤ cs.size →
    ((l.zipIdx j).foldl (fun cs (c, j) => cs.setIfInBounds (off + j) c) cs).toList = cs.toList.take (off + j) ++ l ++ cs.toList.drop (off + j + l.length) := by
  induction l with
  | nil => intro off j cs _; simp
  | cons c l ih =>
    intro off j cs h
    simp only [List.length_cons] at h
    simp only [List.zipIdx_cons, List.foldl_cons]
    rw [ih off (j + 1) _ (by simp; omega)]
    have e := list_seg_step cs.toList (off + j) c l (by simp; omega)
    simpa [Array.toList_setIfInBounds, Nat.add_assoc, Nat.add_comm 1] using e

theorem fill_cellsAt (s : Nat) : ∀ (pv : List (Nat × Value)) (k : Nat) (cells : Array Value) (xs : List Value), cellsAt s k pv = some xs → k * s + xs.length ≤ cells.size →
    ∃ r, Instr.fill (fun i => some (i * s, s)) cells pv = some r ∧ r.toList = cells.toList.take (k * s) ++ xs ++ cells.toList.drop (k * s + xs.length)
  | [], k, cells, xs, h, _ => by
    simp only [cellsAt, Option.some.injEq] at h
    subst h
    exact ⟨cells, rfl, by simp⟩
  | (i, v) :: r, k, cells, xs, h, hl => by
    unfold cellsAt at h
    cases hc : (Nat.beq i k && Nat.beq v.cells.toList.length s) with
    | false => rw [hc, cond_false] at h; cases h
    | true =>
      simp only [Bool.and_eq_true] at hc
      have hi : i = k := Nat.eq_of_beq_eq_true hc.1
      have hs : v.cells.toList.length = s := Nat.eq_of_beq_eq_true hc.2
      subst hi
      have hb : (Nat.beq i i && Nat.beq v.cells.toList.length s) = true := by rw [Bool.and_eq_true]; exact hc
      simp only [hb, cond_true] at h
      cases hr : cellsAt s (i + 1) r with
      | none => simp [hr] at h
      | some l =>
        simp only [hr, Option.some.injEq] at h
        subst h
        simp only [List.length_append] at hl
        have hsz : v.cells.size = s := by rw [← hs]; exact Array.length_toList.symm
        have hf := foldl_set v.cells.toList (i * s) 0 cells (by omega)
        simp only [Nat.add_zero] at hf
        have hlen : (v.cells.zipIdx.foldl (fun cs (c, j) => cs.setIfInBounds (i * s + j) c) cells).toList = cells.toList.take (i * s) ++ v.cells.toList ++ cells.toList.drop (i * s + v.cells.toList.length) := by
          rw [← Array.foldl_toList, Array.toList_zipIdx]; exact hf
        have hsize : (v.cells.zipIdx.foldl (fun cs (c, j) => cs.setIfInBounds (i * s + j) c) cells).size = cells.size := by
          rw [← Array.length_toList, hlen]; simp; omega
        obtain ⟨r', h1, h2⟩ := fill_cellsAt s r (i + 1) _ l hr (by rw [hsize, Nat.add_mul]; omega)
        refine ⟨r', ?_, ?_⟩
        · have hng : ¬ (i * s + s > cells.size) := by omega
          simp only [Instr.fill, hsz, ne_eq, not_true_eq_false, decide_false, hng, Bool.or_self, Bool.false_eq_true, if_false]
          exact h1
        · rw [h2, hlen, hs]
          have e1 : (i + 1) * s = i * s + s := by rw [Nat.add_mul]; omega
          have hA : (cells.toList.take (i * s) ++ v.cells.toList).length = i * s + s := by simp; omega
          rw [e1]
          rw [List.take_append_of_le_length (by omega), List.take_of_length_le (by omega)]
          rw [List.drop_append, hA, List.drop_of_length_le (by rw [hA]; omega)]
          simp [Nat.add_assoc, hsz]

section ops
variable {m : Bool} {cx : Cx} {fs : Slots} {H : List Chunk} {Q : Post} {ops : Array Oper} {rest : List Oper} {g : Option (Nat × Bool)} {d : Nat} {ty : TypeId} {pos : String} {af : Array Edge}

/-- A slice written out, every place of it. -/
theorem o_lit {parts : List (Nat × Operand)} {pv : List (Nat × Value)} {t e n : Nat} {z : Value} {s : Nat} (xs : List Value) (ht : cx.P.underlying t = some (.slice e)) (hi : (cx.P.info? e).map (fun i => (i.zero, i.size)) = some (some z, s)) (hok : okS cx.n ops fs d g = true)
    (hx : evp fs parts = some pv) (hv : cellsAt s 0 pv = some xs) (hl : xs.length = n * s) (hsm : n * s ≤ 16777216) (hm : n ≤ maxLen)
    (k : ∀ b, TriX false cx ops ((d, .slice (some ⟨b, 0, none⟩) n n) :: fs) (row (.slice (some ⟨b, 0, none⟩) n n) e s n xs :: H) rest Q) : TriX false cx ops fs H (⟨some d, .buildSlice t n parts.toArray, ty, pos, af, g⟩ :: rest) Q :=
  triL_gen (J := Nat) (fun b => .slice (some ⟨b, 0, none⟩) n n) (fun b => row (.slice (some ⟨b, 0, none⟩) n n) e s n xs :: H) (fun _ => True) (okS_want hok) (fun e he => by cases he; exact okS_lt hok)
    (fun a w ha hw => by
      obtain ⟨i, hi0, hz'⟩ := Option.map_eq_some_iff.1 hi
      simp only [Prod.mk.injEq] at hz'
      obtain ⟨hz, hsz⟩ := hz'
      have hsm' : ¬ (16777216 < n * s) := by omega
      obtain ⟨r, h1, h2⟩ : ∃ r, Instr.fill (fun i => some (i * s, s)) ((Array.range (n * s)).map ((if n * s = 0 then #[] else z.cells)[· % (if n * s = 0 then #[] else z.cells).size]!)) pv = some r ∧ r.toList = xs := by
        obtain ⟨r, h1, h2⟩ := fill_cellsAt s pv 0 ((Array.range (n * s)).map ((if n * s = 0 then #[] else z.cells)[· % (if n * s = 0 then #[] else z.cells).size]!)) xs hv (by simp [hl])
        refine ⟨r, h1, ?_⟩
        rw [h2, hl]
        simp only [Nat.zero_mul, List.take_zero, List.nil_append, Nat.zero_add]
        rw [List.drop_of_length_le (by simp)]
        simp
      refine ⟨w.heap.size, w.alloc (.cells xs.toArray e), .inl ?_, hw.push (Chg.alloc _ _ _) _ ?_ (own_new (fun a h => by cases h; exact Nat.le_refl _)), trivial⟩
      · have hr : r = xs.toArray := by rw [← h2]
        have hpe : (Array.map (fun p : Nat × Operand => (p.1, a.eval p.2)) parts.toArray).toList = pv := by simp [ha.evp hx]
        have hszr : (sizeOf e).run cx.P w = .ok s w := by simp [sizeOf, typeInfo, hi0, hsz]
        simp only [execOp, Instr.buildSlice, Sem.run_bind, run_underlying ht, Result.andThen_ok, hszr, gt_iff_lt, Nat.reducePow, hsm', if_false, hpe]
        by_cases h0 : n * s = 0
        · rw [if_pos h0] at h1
          rw [if_pos h0]
          simp only [pure_bind, h1]
          simp [newRow, hr]
        · rw [if_neg h0] at h1
          rw [if_neg h0]
          have hzr : (zeroValue e).run cx.P w = .ok z w := by simp [zeroValue, typeInfo, hi0, hz]
          simp only [Sem.run_bind, hzr, Result.andThen_ok, pure_bind, h1]
          simp [newRow, hr]
      · refine ⟨hl, .inr ⟨w.heap.size, n, xs.toArray, rfl, Nat.zero_le _, heap_alloc_new w _, Nat.le_refl _, hm, by simp [hl], ?_⟩⟩
        rw [← hl]; simp) (fun b _ => k b)

/-- '[]byte' of a text that is written out: the row may no more be written. -/
theorem o_mark {x : Operand} {t e i b n : Nat} {xs : List Value} (ht : cx.P.underlying t = some (.slice e)) (he : cx.P.underlying e = some (.int .u8)) (hn : Nth H i (row (.slice (some ⟨b, 0, none⟩) n n) e 1 n xs)) (hok : okS cx.n ops fs d g = true) (hx : ev fs x = some (.slice (some ⟨b, 0, none⟩) n n))
    (k : TriX false cx ops ((d, .slice (some ⟨b, 0, none⟩) n n) :: fs) (setH H i (frz b e xs)) rest Q) : TriX false cx ops fs H (⟨some d, .convert t t x, ty, pos, af, g⟩ :: rest) Q :=
  triL_gen (J := Unit) (fun _ => .slice (some ⟨b, 0, none⟩) n n) (fun _ => setH H i (frz b e xs)) (fun _ => True) (okS_want hok) (fun e he => by cases he; exact okS_lt hok)
    (fun a w ha hw => by
      have ho : w.ownsRow 0 e 1 (.slice (some ⟨b, 0, none⟩) n n) n xs := hw.holds _ hn.mem
      obtain ⟨hl, h2⟩ := ho
      rcases h2 with ⟨h3, _⟩ | ⟨g0, cap, cur, hv, _, hh, hnc, hcm, hcs, htk⟩
      · cases h3
      · injection hv with h5 h6 h7
        injection h5 with h5
        injection h5 with h5
        subst h5; subst h7
        have hcur : cur = xs.toArray := by
          rw [← htk]
          have : cur.toList.take (n * 1) = cur.toList := List.take_of_length_le (by simp; omega)
          rw [this]
        subst hcur
        have hsh : w.shape? b = some (e, xs.toArray.size) := by simp [World.shape?, hh]
        refine ⟨(), w.freeze ⟨b, xs.toArray.size, none⟩ 1, .inl ?_, ?_, trivial⟩
        · simp [execOp, ha.eval hx, convert, run_underlying ht, run_underlying he, markStringish, hsh]
        · refine hw.change hn (frz b e xs) ?_ rfl rfl rfl (by simp [World.freeze]) (fun k _ hk => ?_) (fun k hk => .inl (by cases hk; rfl))
          · refine ⟨(xs.toArray.size, xs.toArray.size + 1), ?_⟩
            simp only [World.freeze, Nat.one_ne_zero, if_false, Array.getElem?_modify, if_true, hh, Option.map_some]
            rfl
          · have hkb : b ≠ k := fun e => hk (by subst e; rfl)
            simp only [World.freeze, Nat.one_ne_zero, if_false, Array.getElem?_modify, hkb]) (fun _ _ => k)

theorem own_some {w : World} {A : Option Addr} {e s n c : Nat} {xs : List Value} (h : w.ownsRow 0 e s (.slice A n c) n xs) (hpos : 0 < xs.length) :
    ∃ g cur, A = some ⟨g, 0, none⟩ ∧ w.heap[g]? = some (.cells cur e (0, 0)) ∧ n ≤ c ∧ cur.size = c * s ∧ cur.toList.take (n * s) = xs := by
  obtain ⟨hl, h2⟩ := h
  rcases h2 with ⟨h3, h4⟩ | ⟨g, cap, cur, hv, _, hh, hnc, hcm, hcs, htk⟩
  · subst h4; simp at hl; rw [hl] at hpos; simp at hpos
  · injection hv with h5 h6 h7
    subst h7
    exact ⟨g, cur, h5, hh, hnc, hcs, htk⟩

/-- A store into a row. -/
theorem o_storeR {x y : Operand} {t e i kk s n c : Nat} {A : Option Addr} {xs : List Value} {v : Value} (hz : szB cx.P t = some 1) (hn : Nth H i (row (.slice A n c) e s n xs)) (hok : okW ops fs g = true) (hx : ev fs x = some (ptrAt A kk)) (hy : ev fs y = some v)
    (hv : v.cells = #[v]) (hk : kk < xs.length) (h1 : v.oneCell' = true) (k : TriX false cx ops fs (setH H i (row (.slice A n c) e s n (xs.set kk v))) rest Q) : TriX false cx ops fs H (⟨none, .store t x y, ty, pos, af, g⟩ :: rest) Q :=
  triL_gen (J := Unit) (fun _ => undef) (fun _ => setH H i (row (.slice A n c) e s n (xs.set kk v))) (fun _ => True) (okW_want hok) (fun e he => by cases he)
    (fun a w ha hw => by
      have ho : w.ownsRow 0 e s (.slice A n c) n xs := hw.holds _ hn.mem
      obtain ⟨gg, cur, rfl, hh, hnc, hcs, htk⟩ := own_some ho (by omega)
      have hkc : kk < cur.size := by
        have : (cur.toList.take (n * s)).length = xs.length := by rw [htk]
        simp at this; omega
      have hst := run_storeCells_at cx.P gg kk e [v] 0 cur w hh (by simp; omega) (by simpa using h1)
      simp only [Nat.add_zero, List.length_cons, List.length_nil, Nat.zero_add] at hst
      have hset : cur.toList.take kk ++ [v] ++ cur.toList.drop (kk + 1) = cur.toList.set kk v := by
        rw [List.set_eq_take_append_cons_drop]; simp [hkc]
      rw [hset] at hst
      refine ⟨(), w.setRow gg (cur.toList.set kk v).toArray, .inr ⟨?_, rfl⟩, ?_, trivial⟩
      · simp [execOp, ha.eval hx, ha.eval hy, ptrAt, Instr.storeAt, Instr.sureAddr, storeVar, run_sizeB hz, hv, add_lit, hst]
      · have hfpc : ∀ k, (row (.slice (some ⟨gg, 0, none⟩) n c) e s n xs).fp k ↔ k = gg := fun k => by
          show (Value.slice (some ⟨gg, 0, none⟩) n c).ownBlock = some k ↔ k = gg
          simp [Value.ownBlock, eq_comm]
        refine hw.change hn _ ?_ rfl rfl rfl (by simp) (fun k _ hk => heap_setRow_other _ (fun e => hk ((hfpc k).2 e))) (fun k hk => .inl hk)
        refine ⟨by simp [ho.1], .inr ⟨gg, c, _, rfl, Nat.zero_le _, heap_setRow_same _ hh, hnc, ?_, by simp [hcs], ?_⟩⟩
        · rcases ho.2 with ⟨h3, _⟩ | ⟨_, cap, _, hv2, _, _, _, hcm, _⟩
          · cases h3
          · injection hv2 with _ _ h7; subst h7; exact hcm
        · rw [← htk]; simp [List.take_set]) (fun _ _ => k)

/-- 'copy(x, y)', x the call's own; one cell an element. -/
theorem o_copy {x y : Operand} {t u e i n c n2 c2 : Nat} {A A2 : Option Addr} {xs ys : List Value} (ht : cx.P.underlying t = some (.slice e)) (hz : szB cx.P e = some 1) (hn : Nth H i (row (.slice A n c) e 1 n xs)) (hok : okS cx.n ops fs d g = true) (hx : ev fs x = some (.slice A n c)) (hy : ev fs y = some (.slice A2 n2 c2))
    (hr : RdS cx H A2 ys) (hl : ys.length = n2) (h1 : ∀ v ∈ ys, v.oneCell' = true) (k : TriX false cx ops ((d, .int .i64 ((min n2 n : Nat) : Int)) :: fs) (setH H i (row (.slice A n c) e 1 n (ys.take (min n2 n) ++ xs.drop (min n2 n)))) rest Q) :
    TriX false cx ops fs H (⟨some d, .call ⟨.builtin .copy, #[x, y], #[t, u]⟩, ty, pos, af, g⟩ :: rest) Q :=
  triL_gen (J := Unit) (fun _ => .int .i64 ((min n2 n : Nat) : Int)) (fun _ => setH H i (row (.slice A n c) e 1 n (ys.take (min n2 n) ++ xs.drop (min n2 n)))) (fun _ => True) (okS_want hok) (fun e he => by cases he; exact okS_lt hok)
    (fun a w ha hw => by
      have ho : w.ownsRow 0 e 1 (.slice A n c) n xs := hw.holds _ hn.mem
      have hxl : xs.length = n := by have := ho.1; omega
      have hcells : (Builtin.firstCells 1 (min n2 n) (.slice A2 n2 c2)).run cx.P w = .ok (ys.take (min n2 n)).toArray w := by
        cases A2 with
        | none =>
          have : ys = [] := by
            cases ys with
            | nil => rfl
            | cons u r => obtain ⟨a0, h, _⟩ := hr w hw 0 u (by simp); cases h
          subst this
          simp [Builtin.firstCells]
        | some a2 =>
          have := run_loadCells_list (P := cx.P) w a2 (ys.take (min n2 n)) (fun j v hj => by
            rw [List.getElem?_take] at hj
            split at hj
            · obtain ⟨a1, e1, e2⟩ := hr w hw j v hj; cases e1; exact e2
            · cases hj)
          rw [List.length_take, hl, Nat.min_eq_left (Nat.min_le_left _ _)] at this
          simpa [Builtin.firstCells] using this
      have h1' : ∀ v ∈ ys.take (min n2 n), v.oneCell' = true := fun v hv => h1 v (List.mem_of_mem_take hv)
      have hmin : Nat.min n2 n = min n2 n := rfl
      cases A with
      | none =>
        have hn0 : n = 0 := by
          rcases ho.2 with ⟨_, h4⟩ | ⟨_, _, _, hv2, _⟩
          · exact h4
          · cases hv2
        subst hn0
        refine ⟨(), w, .inl (run_call_builtin (xs := [x, y]) (vs := [.slice none 0 c, .slice A2 n2 c2]) ha (by simp [evs, hx, hy]) ?_), ?_, trivial⟩
        · simp only [Nat.min_zero] at hcells
          simp [builtin, Builtin.copy_, run_underlying ht, Builtin.lenOf, run_sizeB hz, hmin, hcells, goInt]
        · have : xs = [] := List.eq_nil_of_length_eq_zero hxl
          subst this
          simp only [Nat.min_zero, List.take_zero, List.drop_nil, List.append_nil]
          exact hw.change hn _ ho rfl rfl rfl (Nat.le_refl _) (fun _ _ _ => rfl) (fun k hk => .inl hk)
      | some a0 =>
        obtain ⟨gg, cur, hA, hh, hnc, hcs, htk⟩ : ∃ gg cur, some a0 = some ⟨gg, 0, none⟩ ∧ w.heap[gg]? = some (.cells cur e (0, 0)) ∧ n ≤ c ∧ cur.size = c * 1 ∧ cur.toList.take (n * 1) = xs := by
          rcases ho.2 with ⟨h3, _⟩ | ⟨g, cap, cur, hv, _, hh, hnc, hcm, hcs, htk⟩
          · cases h3
          · injection hv with h5 h6 h7; subst h7; exact ⟨g, cur, h5, hh, hnc, hcs, htk⟩
        cases hA
        have hlt : (ys.take (min n2 n)).length = min n2 n := by rw [List.length_take, hl]; omega
        have hst := run_storeCells_at cx.P gg 0 e (ys.take (min n2 n)) 0 cur w hh (by rw [hlt]; omega) h1'
        simp only [Nat.zero_add, hlt, List.take_zero, List.nil_append] at hst
        refine ⟨(), w.setRow gg (ys.take (min n2 n) ++ cur.toList.drop (min n2 n)).toArray, .inl (run_call_builtin (xs := [x, y]) (vs := [.slice (some ⟨gg, 0, none⟩) n c, .slice A2 n2 c2]) ha (by simp [evs, hx, hy]) ?_), ?_, trivial⟩
        · simp [builtin, Builtin.copy_, run_underlying ht, Builtin.lenOf, run_sizeB hz, hmin, hcells, hst, goInt]
        · have hfpc : ∀ k, (row (.slice (some ⟨gg, 0, none⟩) n c) e 1 n xs).fp k ↔ k = gg := fun k => by
            show (Value.slice (some ⟨gg, 0, none⟩) n c).ownBlock = some k ↔ k = gg
            simp [Value.ownBlock, eq_comm]
          refine hw.change hn _ ?_ rfl rfl rfl (by simp) (fun k _ hk => heap_setRow_other _ (fun e => hk ((hfpc k).2 e))) (fun k hk => .inl hk)
          have hcm : c ≤ maxLen := by
            rcases ho.2 with ⟨h3, _⟩ | ⟨_, cap, _, hv2, _, _, _, hcm, _⟩
            · cases h3
            · injection hv2 with _ _ h7; subst h7; exact hcm
          refine ⟨by simp [hlt, hxl]; omega, .inr ⟨gg, c, _, rfl, Nat.zero_le _, heap_setRow_same _ hh, hnc, hcm, by simp [hlt, hcs]; omega, ?_⟩⟩
          rw [← htk]
          simp only [Nat.mul_one] at *
          rw [List.take_append, hlt, List.take_of_length_le (by rw [hlt]; omega)]
          congr 1
          rw [List.drop_take]) (fun _ _ => k)
end ops

theorem bytesV_one (l : List UInt8) : ∀ u ∈ bytesV l, u.oneCell' = true := fun u hu => by
  obtain ⟨b, _, rfl⟩ := List.mem_map.1 hu; rfl
theorem bytesV_append (l m : List UInt8) : bytesV (l ++ m) = bytesV l ++ bytesV m := by simp [bytesV]
theorem bytesV_take (l : List UInt8) (k : Nat) : bytesV (l.take k) = (bytesV l).take k := by simp [bytesV, List.map_take]
theorem bytesV_drop (l : List UInt8) (k : Nat) : bytesV (l.drop k) = (bytesV l).drop k := by simp [bytesV, List.map_drop]
theorem bytesV_set (l : List UInt8) (k : Nat) (b : UInt8) : (bytesV l).set k (byteV b) = bytesV (l.set k b) := by simp [bytesV, List.map_set]
theorem bytesV_zeros (n : Nat) : (madeCells (Value.cells (.int .u8 0)) n).toList = bytesV (List.replicate n 0) := by
  have : Value.cells (.int .u8 0) = #[.int .u8 0] := rfl
  rw [this, toList_madeCells_one]
  simp [bytesV, byteV]
theorem bytesV_inj {l m : List UInt8} : bytesV l = bytesV m ↔ l = m := by
  constructor
  · intro h
    induction l generalizing m with
    | nil => cases m with
      | nil => rfl
      | cons b m => simp [bytesV] at h
    | cons a l ih => cases m with
      | nil => simp [bytesV] at h
      | cons b m =>
        simp only [bytesV, List.map_cons, List.cons.injEq] at h
        have h1 : a = b := by
          have := h.1
          simp only [byteV, Value.int.injEq, true_and] at this
          exact UInt8.toNat_inj.1 (by omega)
        rw [h1, ih h.2]
  · intro h; rw [h]

theorem own_cap {w : World} {A : Option Addr} {e s n c : Nat} {xs : List Value} (h : w.ownsRow 0 e s (.slice A n c) n xs) : n ≤ c := by
  rcases h.2 with ⟨h3, h4⟩ | ⟨g, cap, cur, hv, _, hh, hnc, _⟩
  · omega
  · injection hv with _ _ h7; omega

/-! ### Results that lie in a new row -/
def NewRowF (f : Value → Value) (w : World) (e size n : Nat) (xs : List Value) (en : Ending) (w' : World) : Prop :=
  ∃ A c, en = .returned (f (.slice A n c)) ∧ w'.ownsRow 0 e size (.slice A n c) n xs ∧ (∀ a, A = some a → w.heap.size ≤ a.block) ∧ Chg [] w w'
theorem fin_row {P n0 w} {H : List Chunk} {i : Nat} {A : Option Addr} {n c e size : Nat} {xs : List Value} (f : Value → Value) (hn : Nth H i (row (.slice A n c) e size n xs)) : ∀ w', Sat ⟨P, n0, [], w, []⟩ H w' → NewRowF f w e size n xs (.returned (f (.slice A n c))) w' := fun w' h => by
  refine ⟨A, c, rfl, h.holds _ hn.mem, fun a ha => ?_, h.chg⟩
  rcases h.fresh _ hn.mem a.block (by subst ha; rfl) with h1 | h1
  · exact h1
  · cases h1
section
variable {cx : Cx} {fs : Slots} {H : List Chunk} {Q : Post} {ops : Array Oper} {rest : List Oper} {g : Option (Nat × Bool)} {d : Nat} {ty : TypeId} {pos : String} {af : Array Edge}
theorem o_callF {f : Operand} {xs : List Operand} {ats : Array TypeId} {fid : FuncId} {first cap : List Value} {vs : List Value} {e size n : Nat} {ys : List Value} (F : Value → Value) (hok : okS cx.n ops fs d g = true)
    (hf : ev fs f = some (.func (.func fid) first.toArray cap.toArray)) (hxs : evs fs xs = some vs) (hcf : ∀ args w, (callFunc fid args).run cx.P w = .ok (.enter fid args) w)
    (hc : ∀ w, Sat cx H w → Calls cx.P fid (first ++ vs ++ cap).toArray w (NewRowF F w e size n ys))
    (k : ∀ A c, TriX false cx ops ((d, F (.slice A n c)) :: fs) (row (.slice A n c) e size n ys :: H) rest Q) : TriX false cx ops fs H (⟨some d, .call ⟨.value f, xs.toArray, ats⟩, ty, pos, af, g⟩ :: rest) Q :=
  o_call (J := Option Addr × Nat) (fun j => F (.slice j.1 n j.2)) (fun j => row (.slice j.1 n j.2) e size n ys :: H) (fun _ => True) hok hf hxs hcf
    (fun w hw => (hc w hw).mono fun en w' ⟨A, c, he, ho, hn, hx⟩ => ⟨(A, c), trivial, he, hw.push hx _ ho (own_new hn)⟩) (fun j _ => k j.1 j.2)
end
/-- What a chunk of the state says in its world. -/
theorem Sat.rd {cx H w A xs} (hs : Sat cx H w) (h : RdS cx H A xs) : Rd w A xs := h w hs
end Go.WK
