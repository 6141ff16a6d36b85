/- The walk's own frame, third part: memory, texts, slices, calls, a function's beginning and end. Plain lemmas over any program. -/
import Derived.Test.YtdcdpegomncomaaGreatDoorWk2
namespace Go.WK
open Go.RowKit

/-! ### What the types' table says -/
def aggB (P : Program) (t : TypeId) : Option Bool := match P.underlying t with | some (.struct _) | some (.array _ _) => some true | some _ => some false | none => none
def szB (P : Program) (t : TypeId) : Option Nat := (P.info? t).map (·.size)
def fieldB (P : Program) (t : TypeId) (f : Nat) : Option Nat := match P.underlying t with
  | some (.struct fs) => match fs[f]? with
    | some fd => match szB P fd.type with
      | some 0 => none
      | some _ => some fd.offset
      | none => none
    | none => none
  | _ => none

section
variable {P : Program} {w : World}
theorem run_isAggB {t : TypeId} {b : Bool} (h : aggB P t = some b) : (isAgg t).run P w = .ok b w := by
  unfold aggB at h
  unfold isAgg
  cases hu : P.underlying t with
  | none => simp [hu] at h
  | some ds => cases ds <;> simp_all [run_underlying hu]
theorem run_sizeB {t : TypeId} {z : Nat} (h : szB P t = some z) : (sizeOf t).run P w = .ok z w := by
  unfold szB at h
  cases hi : P.info? t with
  | none => simp [hi] at h
  | some i => simp [hi] at h; simp [sizeOf, typeInfo, hi, h]

theorem add_add (a : Addr) (i j : Nat) : (a.add i).add j = a.add (i + j) := by
  unfold Addr.add
  by_cases hi : i = 0 <;> by_cases hj : j = 0 <;> simp [hi, hj, Nat.add_assoc]
theorem add_block (a : Addr) (i : Nat) : (a.add i).block = a.block := by unfold Addr.add; split <;> rfl
theorem add_lit (g o i : Nat) : (⟨g, o, none⟩ : Addr).add i = ⟨g, o + i, none⟩ := by unfold Addr.add; split <;> simp_all

theorem run_field {t : TypeId} {f fo : Nat} (h : fieldB P t f = some fo) (a : Addr) : (Instr.fieldAt t (.pointer (some a)) f).run P w = .ok (.pointer (some (a.add fo))) w := by
  unfold fieldB at h
  cases hu : P.underlying t with
  | none => simp [hu] at h
  | some ds =>
    cases ds <;> simp only [hu] at h <;> try cases h
    rename_i fs
    cases hf : fs[f]? with
    | none => simp [hf] at h
    | some fd =>
      simp only [hf] at h
      cases hz : szB P fd.type with
      | none => simp [hz] at h
      | some z =>
        cases z with
        | zero => simp [hz] at h
        | succ z =>
          simp only [hz, Option.some.injEq] at h
          subst h
          simp [Instr.fieldAt, run_underlying hu, hf, Instr.sureAddr, fieldPlace, run_sizeB hz]
end

/-! ### What is read: cells from an address on -/
def Rd (w : World) (A : Option Addr) (xs : List Value) : Prop := ∀ j u, xs[j]? = some u → ∃ a, A = some a ∧ w.cell? (a.add j) = some u
def RdS (cx : Cx) (H : List Chunk) (A : Option Addr) (xs : List Value) : Prop := ∀ w, Sat cx H w → Rd w A xs
def ptrAt (A : Option Addr) (k : Nat) : Value := .pointer (A.map (·.add k))
/-- The address of a cut. -/
def cutA (A : Option Addr) (cap l s : Nat) : Option Addr := if cap = l then A else A.map (·.add (l * s))

theorem Rd.nil (w : World) (A : Option Addr) : Rd w A [] := fun j u h => by simp at h
theorem Rd.ext {w w' : World} {A : Option Addr} {xs : List Value} (h : Rd w A xs) (hx : Chg [] w w') : Rd w' A xs := fun j u hj => by
  obtain ⟨a, ha, hc⟩ := h j u hj
  exact ⟨a, ha, (World.cell?_of_block (hx.block _ (World.block_lt_of_cell? w _ hc) (by simp))).trans hc⟩
theorem Rd.chg {l : List Nat} {w w' : World} {A : Option Addr} {xs : List Value} (h : Rd w A xs) (hx : Chg l w w') (hl : ∀ a, A = some a → a.block ∉ l) : Rd w' A xs := fun j u hj => by
  obtain ⟨a, ha, hc⟩ := h j u hj
  exact ⟨a, ha, (World.cell?_of_block (hx.block _ (World.block_lt_of_cell? w _ hc) (by rw [add_block]; exact hl a ha))).trans hc⟩
theorem Rd.cut {w : World} {A : Option Addr} {xs : List Value} (h : Rd w A xs) {n cap l s : Nat} (hn : xs.length = n * s) (hl : l ≤ n) (hc : n ≤ cap) : Rd w (cutA A cap l s) (xs.drop (l * s)) := fun j u hj => by
  rw [List.getElem?_drop] at hj
  obtain ⟨a, ha, hcl⟩ := h _ u hj
  have hlt : l * s + j < xs.length := (List.getElem?_eq_some_iff.1 hj).1
  unfold cutA
  rw [if_neg (by rintro rfl; have : n = cap := by omega
                 subst this; omega), ha]
  exact ⟨_, rfl, by rw [add_add]; exact hcl⟩
theorem Rd.take {w : World} {A : Option Addr} {xs : List Value} (h : Rd w A xs) (k : Nat) : Rd w A (xs.take k) := fun j u hj => h j u (by
  rw [List.getElem?_take] at hj
  split at hj
  · exact hj
  · cases hj)

section
variable {cx : Cx} {H : List Chunk} {A : Option Addr} {xs : List Value}
theorem RdS.arg (h : Rd cx.w0 A xs) (hl : cx.lent = []) : RdS cx H A xs := fun _ hs => h.chg hs.chg (fun a _ => by rw [hl]; simp)
theorem RdS.lent (h : Rd cx.w0 A xs) (hl : ∀ a, A = some a → a.block ∉ cx.lent) : RdS cx H A xs := fun _ hs => h.chg hs.chg hl
theorem RdS.row {i e size n c : Nat} (hn : Nth H i (row (.slice A n c) e size n xs)) : RdS cx H A xs := fun w hs j u hj => by
  have ho : w.ownsRow 0 e size (.slice A n c) n xs := hs.holds _ hn.mem
  cases A with
  | none =>
    obtain ⟨hl, h2⟩ := ho
    rcases h2 with ⟨h3, h4⟩ | ⟨g, cap, cur, hv, _⟩
    · subst h4; have : xs = [] := List.eq_nil_of_length_eq_zero (by simpa using hl)
      subst this; simp at hj
    · injection hv with h5; cases h5
  | some a =>
    have hform := ho.2
    rcases hform with ⟨h3, _⟩ | ⟨g, cap, cur, hv, _⟩
    · injection h3 with h5; cases h5
    · injection hv with h5
      injection h5 with h5
      subst h5
      exact ⟨_, rfl, ho.cells (g := g) rfl j u hj⟩
theorem RdS.box {i g t : Nat} {cs : List Value} (hn : Nth H i (box g t cs)) : RdS cx H (some ⟨g, 0, none⟩) cs := fun w hs j u hj => by
  have hb : w.heap[g]? = some (.cells cs.toArray t (0, 0)) := hs.holds _ hn.mem
  exact ⟨_, rfl, by rw [add_lit, Nat.zero_add, cell_of_row w g j cs.toArray t (0, 0) hb]; simpa using hj⟩
theorem RdS.cut (h : RdS cx H A xs) {n cap l s : Nat} (hn : xs.length = n * s) (hl : l ≤ n) (hc : n ≤ cap) : RdS cx H (cutA A cap l s) (xs.drop (l * s)) := fun w hs => (h w hs).cut hn hl hc
theorem RdS.take (h : RdS cx H A xs) (k : Nat) : RdS cx H A (xs.take k) := fun w hs => (h w hs).take k
theorem RdS.nil : RdS cx H A [] := fun w _ => Rd.nil w A
end

/-! ### Texts, bytes -/
abbrev B (l : List UInt8) : ByteArray := ⟨l.toArray⟩
def byteV (b : UInt8) : Value := .int .u8 (b.toNat : Int)
def bytesV (l : List UInt8) : List Value := l.map byteV
theorem bytesV_length (l : List UInt8) : (bytesV l).length = l.length := by simp [bytesV]
theorem bytesV_get (l : List UInt8) (k : Nat) (h : k < l.length) : (bytesV l)[k]? = some (byteV (l.getD k 0)) := by
  simp [bytesV, h, List.getD]
theorem B_eq (s : ByteArray) : s = B s.data.toList := by cases s; rfl
theorem B_inj {a b : List UInt8} : B a = B b ↔ a = b := by
  constructor
  · intro h; have := congrArg (fun s : ByteArray => s.data.toList) h; simpa using this
  · intro h; rw [h]
theorem B_size (l : List UInt8) : (B l).size = l.length := by simp [B, ByteArray.size]
theorem B_toList (l : List UInt8) : (B l).toList = l := by
  simp

section ops
variable {m : Bool}
variable {cx : Cx} {fs : Slots} {H : List Chunk} {Q : Post} {ops : Array Oper} {rest : List Oper} {g : Option (Nat × Bool)} {d : Nat} {ty : TypeId} {pos : String} {af : Array Edge}

/-! ### Boxes -/
/-- A new variable. -/
theorem o_box {x : Operand} {t : TypeId} {v : Value} (cs : List Value) (hok : okS cx.n ops fs d g = true) (hx : ev fs x = some v) (hcs : v.cells = cs.toArray)
    (k : ∀ b : Nat, TriX false cx ops ((d, .pointer (some ⟨b, 0, none⟩)) :: fs) (box b t cs :: H) rest Q) : TriX false cx ops fs H (⟨some d, .box t x, ty, pos, af, g⟩ :: rest) Q :=
  triL_gen (J := Nat) (fun b => .pointer (some ⟨b, 0, none⟩)) (fun b => box b t cs :: H) (fun _ => True) (okS_want hok) (fun e he => by cases he; exact okS_lt hok)
    (fun a w ha hw => ⟨w.heap.size, w.alloc (.cells cs.toArray t), .inl (by simp [execOp, ha.eval hx, Instr.box, newVar, newRow, hcs]), hw.push (Chg.alloc _ _ _) _ (heap_alloc_new w _) (fun k hk => by cases hk; exact Nat.le_refl _), trivial⟩) (fun b _ => k b)
theorem o_alloc {t : TypeId} {z : Value} (cs : List Value) (hok : okS cx.n ops fs d g = true) (hz : (cx.P.info? t).map (·.zero) = some (some z)) (hcs : z.cells = cs.toArray)
    (k : ∀ b : Nat, TriX false cx ops ((d, .pointer (some ⟨b, 0, none⟩)) :: fs) (box b t cs :: H) rest Q) : TriX false cx ops fs H (⟨some d, .alloc t, ty, pos, af, g⟩ :: rest) Q :=
  triL_gen (J := Nat) (fun b => .pointer (some ⟨b, 0, none⟩)) (fun b => box b t cs :: H) (fun _ => True) (okS_want hok) (fun e he => by cases he; exact okS_lt hok)
    (fun a w ha hw => ⟨w.heap.size, w.alloc (.cells cs.toArray t), .inl (by
      obtain ⟨i, hi, hz'⟩ := Option.map_eq_some_iff.1 hz
      simp [execOp, Instr.alloc, zeroValue, typeInfo, hi, hz', newVar, newRow, hcs]), hw.push (Chg.alloc _ _ _) _ (heap_alloc_new w _) (fun k hk => by cases hk; exact Nat.le_refl _), trivial⟩) (fun b _ => k b)

theorem o_field {x : Operand} {t : TypeId} {f fo b o : Nat} (hf : fieldB cx.P t f = some fo) (hok : okS cx.n ops fs d g = true) (hx : ev fs x = some (.pointer (some ⟨b, o, none⟩)))
    (k : TriX m cx ops ((d, .pointer (some ⟨b, o + fo, none⟩)) :: fs) H rest Q) : TriX m cx ops fs H (⟨some d, .fieldAddr t x f, ty, pos, af, g⟩ :: rest) Q :=
  triL_val _ hok (fun a w ha _ => by simp [execOp, ha.eval hx, run_field hf, add_lit]) k
/-- A field of what an address points at, in memory that is read. -/
theorem o_fieldAt {x : Operand} {t : TypeId} {f fo kk : Nat} {A : Option Addr} {xs : List Value} {u : Value} (hf : fieldB cx.P t f = some fo) (hok : okS cx.n ops fs d g = true) (hx : ev fs x = some (ptrAt A kk)) (hr : RdS cx H A xs) (hu : xs[kk]? = some u)
    (k : TriX m cx ops ((d, ptrAt A (kk + fo)) :: fs) H rest Q) : TriX m cx ops fs H (⟨some d, .fieldAddr t x f, ty, pos, af, g⟩ :: rest) Q :=
  triL_val _ hok (fun a w ha hw => by
    obtain ⟨a0, rfl, _⟩ := hr w hw _ u hu
    simp [execOp, ha.eval hx, ptrAt, run_field hf, add_add]) k

theorem run_loadScalar {P : Program} {w : World} {t : TypeId} {a : Addr} {v : Value} (ht : aggB P t = some false) (hc : w.cell? a = some v) : (Instr.loadAt t (.pointer (some a))).run P w = .ok v w := by
  simp [Instr.loadAt, Instr.sureAddr, loadVar, run_isAggB ht, hc]
theorem run_loadAgg {P : Program} {w : World} {t : TypeId} {a : Addr} {vs : List Value} (ht : aggB P t = some true) (hz : szB P t = some vs.length) (hc : ∀ j v, vs[j]? = some v → w.cell? (a.add j) = some v) :
    (Instr.loadAt t (.pointer (some a))).run P w = .ok (.agg vs.toArray) w := by
  simp [Instr.loadAt, Instr.sureAddr, loadVar, run_isAggB ht, run_sizeB hz, run_loadCells_list w a vs hc]

/-- A scalar out of a box. -/
theorem o_load {x : Operand} {t bt b o i : Nat} {cs : List Value} {v : Value} (ht : aggB cx.P t = some false) (hn : Nth H i (box b bt cs)) (hok : okS cx.n ops fs d g = true) (hx : ev fs x = some (.pointer (some ⟨b, o, none⟩))) (hv : cs[o]? = some v)
    (k : TriX m cx ops ((d, v) :: fs) H rest Q) : TriX m cx ops fs H (⟨some d, .load t x, ty, pos, af, g⟩ :: rest) Q :=
  triL_val v hok (fun a w ha hw => by
    have hb : w.heap[b]? = some (.cells cs.toArray bt (0, 0)) := hw.holds _ hn.mem
    have hc : w.cell? ⟨b, o, none⟩ = some v := by rw [cell_of_row w b o cs.toArray bt (0, 0) hb]; simpa using hv
    simp [execOp, ha.eval hx, run_loadScalar ht hc]) k
/-- A struct or an array out of a box. -/
theorem o_loadA {x : Operand} {t bt b o i z : Nat} {cs vs : List Value} (ht : aggB cx.P t = some true) (hz : szB cx.P t = some z) (hn : Nth H i (box b bt cs)) (hok : okS cx.n ops fs d g = true) (hx : ev fs x = some (.pointer (some ⟨b, o, none⟩)))
    (hv : (cs.drop o).take z = vs) (hl : vs.length = z) (k : TriX m cx ops ((d, .agg vs.toArray) :: fs) H rest Q) : TriX m cx ops fs H (⟨some d, .load t x, ty, pos, af, g⟩ :: rest) Q :=
  triL_val _ hok (fun a w ha hw => by
    have hb : w.heap[b]? = some (.cells cs.toArray bt (0, 0)) := hw.holds _ hn.mem
    have hc : ∀ j v, vs[j]? = some v → w.cell? ((⟨b, o, none⟩ : Addr).add j) = some v := fun j v hj => by
      rw [add_lit, cell_of_row w b _ cs.toArray bt (0, 0) hb]
      rw [← hv, List.getElem?_take] at hj
      split at hj
      · simpa using hj
      · cases hj
    simp [execOp, ha.eval hx, run_loadAgg ht (by rw [hz, hl]) hc]) k
/-- A scalar out of memory that is read. -/
theorem o_loadR {x : Operand} {t kk : Nat} {A : Option Addr} {xs : List Value} {v : Value} (ht : aggB cx.P t = some false) (hok : okS cx.n ops fs d g = true) (hx : ev fs x = some (ptrAt A kk)) (hr : RdS cx H A xs) (hv : xs[kk]? = some v)
    (k : TriX m cx ops ((d, v) :: fs) H rest Q) : TriX m cx ops fs H (⟨some d, .load t x, ty, pos, af, g⟩ :: rest) Q :=
  triL_val v hok (fun a w ha hw => by
    obtain ⟨a0, rfl, hc⟩ := hr w hw _ v hv
    simp [execOp, ha.eval hx, ptrAt, run_loadScalar ht hc]) k
/-- A struct or an array out of memory that is read. -/
theorem o_loadRA {x : Operand} {t kk z : Nat} {A : Option Addr} {xs vs : List Value} (ht : aggB cx.P t = some true) (hz : szB cx.P t = some z) (hok : okS cx.n ops fs d g = true) (hx : ev fs x = some (ptrAt A kk)) (hr : RdS cx H A xs)
    (hv : (xs.drop kk).take z = vs) (hl : vs.length = z) (hpos : 0 < z) (k : TriX m cx ops ((d, .agg vs.toArray) :: fs) H rest Q) : TriX m cx ops fs H (⟨some d, .load t x, ty, pos, af, g⟩ :: rest) Q :=
  triL_val _ hok (fun a w ha hw => by
    have hget : ∀ j v, vs[j]? = some v → xs[kk + j]? = some v := fun j v hj => by
      rw [← hv, List.getElem?_take] at hj
      split at hj
      · simpa using hj
      · cases hj
    have h0 : 0 < vs.length := by omega
    obtain ⟨a0, rfl, _⟩ := hr w hw _ _ (hget 0 _ (List.getElem?_eq_getElem h0))
    have hc : ∀ j v, vs[j]? = some v → w.cell? ((a0.add kk).add j) = some v := fun j v hj => by
      obtain ⟨a1, h1, hc⟩ := hr w hw _ _ (hget j v hj)
      cases h1
      rw [add_add]; exact hc
    simp [execOp, ha.eval hx, ptrAt, run_loadAgg ht (by rw [hz, hl]) hc]) k

/-- 'vs' laid into a list from place o on. -/
def setL : List Value → Nat → List Value → List Value
  | cs, _, [] => cs
  | cs, o, v :: vs => setL (cs.set o v) (o + 1) vs
theorem setL_eq (vs : List Value) : ∀ (cs : List Value) (o : Nat), o + vs.length ≤ cs.length → setL cs o vs = cs.take o ++ vs ++ cs.drop (o + vs.length) := by
  induction vs with
  | nil => intro cs o _; simp [setL]
  | cons v vs ih =>
    intro cs o h
    simp only [List.length_cons] at h
    rw [setL, ih _ _ (by simp; omega)]
    have e := list_seg_step cs o v vs (by omega)
    simpa [Nat.add_assoc, Nat.add_comm 1] using e

theorem run_storeB {P : Program} {w : World} {t b bt o z : Nat} {cs vs : List Value} {v : Value} (hz : szB P t = some z) (hb : w.heap[b]? = some (.cells cs.toArray bt (0, 0))) (hv : v.cells = vs.toArray) (hl : vs.length = z) (hfit : o + z ≤ cs.length)
    (h1 : ∀ u ∈ vs, u.oneCell' = true) : (Instr.storeAt t (.pointer (some ⟨b, o, none⟩)) v).run P w = .ok () (w.setRow b (setL cs o vs).toArray) := by
  have hst := run_storeCells_at P b o bt vs 0 cs.toArray w hb (by simp; omega) h1
  simp only [Nat.add_zero] at hst
  rw [← setL_eq vs cs o (by omega)] at hst
  simp [Instr.storeAt, Instr.sureAddr, storeVar, run_sizeB hz, hv, hl, hst]

theorem heap_setRow_same {w : World} {g t : Nat} {c : Array Value} {fr : Nat × Nat} (cs : Array Value) (h : w.heap[g]? = some (.cells c t fr)) : (w.setRow g cs).heap[g]? = some (.cells cs t fr) := setRow_heap w g c cs t fr h
theorem heap_setRow_other {w : World} {g k : Nat} (cs : Array Value) (h : k ≠ g) : (w.setRow g cs).heap[k]? = w.heap[k]? := by
  simp only [World.setRow, Array.getElem?_modify]
  rw [if_neg (by omega)]

def allOne : List Value → Bool
  | [] => true
  | v :: vs => v.oneCell' && allOne vs
theorem allOne_spec : ∀ {vs : List Value}, allOne vs = true → ∀ u ∈ vs, u.oneCell' = true
  | [], _, u, hu => by simp at hu
  | v :: vs, h, u, hu => by
    simp only [allOne, Bool.and_eq_true] at h
    rcases List.mem_cons.1 hu with rfl | hu
    · exact h.1
    · exact allOne_spec h.2 u hu

/-- A store into a box. -/
theorem o_store {x y : Operand} {t bt b o i z : Nat} {cs vs : List Value} {v : Value} (hz : szB cx.P t = some z) (hn : Nth H i (box b bt cs)) (hok : okW ops fs g = true) (hx : ev fs x = some (.pointer (some ⟨b, o, none⟩))) (hy : ev fs y = some v)
    (hv : v.cells = vs.toArray) (hl : vs.length = z) (hfit : o + z ≤ cs.length) (h1 : allOne vs = true) (k : TriX false cx ops fs (setH H i (box b bt (setL cs o vs))) rest Q) : TriX false cx ops fs H (⟨none, .store t x y, ty, pos, af, g⟩ :: rest) Q :=
  triL_gen (J := Unit) (fun _ => undef) (fun _ => setH H i (box b bt (setL cs o vs))) (fun _ => True) (okW_want hok) (fun e he => by cases he)
    (fun a w ha hw => by
      have hb : w.heap[b]? = some (.cells cs.toArray bt (0, 0)) := hw.holds _ hn.mem
      refine ⟨(), w.setRow b (setL cs o vs).toArray, .inr ⟨by simp [execOp, ha.eval hx, ha.eval hy, run_storeB hz hb hv hl hfit (allOne_spec h1)], rfl⟩, ?_, trivial⟩
      exact hw.change hn _ (heap_setRow_same _ hb) rfl rfl rfl (by simp) (fun k _ hk => heap_setRow_other _ (fun e => hk e)) (fun k hk => .inl hk)) (fun _ _ => k)

/-! ### Calls of Go functions -/
def evs (fs : Slots) : List Operand → Option (List Value)
  | [] => some []
  | x :: r => match ev fs x with
    | some v => match evs fs r with
      | some vs => some (v :: vs)
      | none => none
    | none => none
theorem Has.evals {n ds a} (h : Has n ds fs a) : ∀ {xs : List Operand} {vs : List Value}, evs fs xs = some vs → xs.map a.eval = vs
  | [], vs, hx => by simp [evs] at hx; simp [hx]
  | x :: r, vs, hx => by
    unfold evs at hx
    cases h1 : ev fs x with
    | none => simp [h1] at hx
    | some v =>
      cases h2 : evs fs r with
      | none => simp [h1, h2] at hx
      | some us =>
        simp only [h1, h2, Option.some.injEq] at hx
        subst hx
        simp [h.eval h1, h.evals h2]

/-- It returns just this value; what was there is as it was. -/
def Pure (w : World) (v : Value) (e : Ending) (w' : World) : Prop := e = .returned v ∧ Chg [] w w'

theorem o_call {J : Type} {f : Operand} {xs : List Operand} {ats : Array TypeId} {fid : FuncId} {first cap : List Value} {vs : List Value} (val : J → Value) (HH : J → List Chunk) (Pu : J → Prop) (hok : okS cx.n ops fs d g = true)
    (hf : ev fs f = some (.func (.func fid) first.toArray cap.toArray)) (hxs : evs fs xs = some vs) (hcf : ∀ args w, (callFunc fid args).run cx.P w = .ok (.enter fid args) w)
    (hc : ∀ w, Sat cx H w → Calls cx.P fid (first ++ vs ++ cap).toArray w fun e w' => ∃ j, Pu j ∧ e = .returned (val j) ∧ Sat cx (HH j) w')
    (k : ∀ j, Pu j → TriX false cx ops ((d, val j) :: fs) (HH j) rest Q) : TriX false cx ops fs H (⟨some d, .call ⟨.value f, xs.toArray, ats⟩, ty, pos, af, g⟩ :: rest) Q := by
  intro a w ha hs
  unfold wpList
  rw [if_pos (wantS_spec ha (okS_want hok) _ rfl)]
  left
  have hargs : ((first ++ xs.map a.eval) ++ cap).toArray = (first ++ vs ++ cap).toArray := by rw [ha.evals hxs]
  have hrun : (execOp a.eval ⟨some d, .call ⟨.value f, xs.toArray, ats⟩, ty, pos, af, g⟩).run cx.P w = .ok (.enter fid (first ++ vs ++ cap).toArray) w := by
    simp only [execOp, resolve, ha.eval hf, Deferred.ofValue, pure_bind, invoke]
    rw [show (first.toArray ++ Array.map a.eval xs.toArray ++ cap.toArray) = (first ++ vs ++ cap).toArray by simp [ha.evals hxs]]
    exact hcf _ _
  unfold Oper.wp
  rw [hrun, Oper.upon_enter]
  refine (hc w hs).mono fun e w' ⟨j, hp, he, hs'⟩ => ?_
  subst he
  exact k j hp _ _ (ha.put (okS_lt hok) _) hs'

/-- A call that returns just one value, and changes nothing that was there. -/
theorem o_callP {f : Operand} {xs : List Operand} {ats : Array TypeId} {fid : FuncId} {first cap : List Value} {vs : List Value} {v : Value} (hok : okS cx.n ops fs d g = true)
    (hf : ev fs f = some (.func (.func fid) first.toArray cap.toArray)) (hxs : evs fs xs = some vs) (hcf : ∀ args w, (callFunc fid args).run cx.P w = .ok (.enter fid args) w)
    (hc : ∀ w, Sat cx H w → Calls cx.P fid (first ++ vs ++ cap).toArray w (Pure w v))
    (k : TriX m cx ops ((d, v) :: fs) H rest Q) : TriX m cx ops fs H (⟨some d, .call ⟨.value f, xs.toArray, ats⟩, ty, pos, af, g⟩ :: rest) Q := by
  cases m with
  | false => exact o_call (J := Unit) (fun _ => v) (fun _ => H) (fun _ => True) hok hf hxs hcf (fun w hw => (hc w hw).mono fun e w' ⟨he, hx⟩ => ⟨(), trivial, he, hw.ext hx⟩) (fun _ _ => k)
  | true =>
    intro a ha
    unfold wpFix
    rw [if_pos (wantS_spec ha (okS_want hok) _ rfl)]
    refine ⟨v, fun w hw => ?_, k _ (ha.put (okS_lt hok) _)⟩
    have hrun : (execOp a.eval ⟨some d, .call ⟨.value f, xs.toArray, ats⟩, ty, pos, af, g⟩).run cx.P w = .ok (.enter fid (first ++ vs ++ cap).toArray) w := by
      simp only [execOp, resolve, ha.eval hf, Deferred.ofValue, pure_bind, invoke]
      rw [show (first.toArray ++ Array.map a.eval xs.toArray ++ cap.toArray) = (first ++ vs ++ cap).toArray by simp [ha.evals hxs]]
      exact hcf _ _
    unfold Oper.quietAt
    rw [hrun]
    exact ⟨rfl, (hc w hw).mono fun e w' ⟨he, hx⟩ => ⟨he, hx⟩⟩

/-- It returns a slice that owns a new row. -/
def NewRow (w : World) (e size n : Nat) (xs : List Value) (en : Ending) (w' : World) : Prop :=
  ∃ A c, en = .returned (.slice A n c) ∧ w'.ownsRow 0 e size (.slice A n c) n xs ∧ (∀ a, A = some a → w.heap.size ≤ a.block) ∧ Chg [] w w'

theorem own_new {w : World} {A : Option Addr} {n c : Nat} (h : ∀ a, A = some a → w.heap.size ≤ a.block) : ∀ k, (Value.slice A n c).ownBlock = some k → w.heap.size ≤ k := by
  intro k hk
  cases A with
  | none => simp [Value.ownBlock] at hk
  | some a => simp only [Value.ownBlock, Option.some.injEq] at hk; subst hk; exact h a rfl

theorem o_callR {f : Operand} {xs : List Operand} {ats : Array TypeId} {fid : FuncId} {first cap : List Value} {vs : List Value} {e size n : Nat} {ys : List Value} (hok : okS cx.n ops fs d g = true)
    (hf : ev fs f = some (.func (.func fid) first.toArray cap.toArray)) (hxs : evs fs xs = some vs) (hcf : ∀ args w, (callFunc fid args).run cx.P w = .ok (.enter fid args) w)
    (hc : ∀ w, Sat cx H w → Calls cx.P fid (first ++ vs ++ cap).toArray w (NewRow w e size n ys))
    (k : ∀ A c, TriX false cx ops ((d, .slice A n c) :: fs) (row (.slice A n c) e size n ys :: H) rest Q) : TriX false cx ops fs H (⟨some d, .call ⟨.value f, xs.toArray, ats⟩, ty, pos, af, g⟩ :: rest) Q :=
  o_call (J := Option Addr × Nat) (fun j => .slice j.1 n j.2) (fun j => row (.slice j.1 n j.2) e size n ys :: H) (fun _ => True) hok hf hxs hcf
    (fun w hw => (hc w hw).mono fun en w' ⟨A, c, he, ho, hn, hx⟩ => ⟨(A, c), trivial, he, hw.push hx _ ho (own_new hn)⟩) (fun j _ => k j.1 j.2)
end ops

/-! ### A function's beginning and end -/
section
variable {P : Program} {fn : Func}
def argS : Nat → List Value → Slots
  | _, [] => []
  | i, v :: vs => (i, v) :: argS (i + 1) vs
theorem argS_look : ∀ (vs : List Value) (i d : Nat) (v : Value), look (argS i vs) d = some v → i ≤ d ∧ vs[d - i]? = some v
  | [], _, _, _, h => by simp [argS, look] at h
  | u :: vs, i, d, v, h => by
    by_cases hd : i = d
    · subst hd; simp only [argS] at h; rw [look_cons_self] at h; exact ⟨Nat.le_refl _, by simpa using h⟩
    · simp only [argS] at h
      rw [look_cons_ne _ _ hd] at h
      obtain ⟨h1, h2⟩ := argS_look vs (i + 1) d v h
      refine ⟨by omega, ?_⟩
      rw [show d - i = (d - (i + 1)) + 1 by omega]
      simpa using h2

def endQ (cx : Cx) (fn : Func) (R : Ending → World → Prop) : Post
  | .normal, fs, H | .ret, fs, H => ∃ v, (∀ a w, Has cx.n cx.ds fs a → Sat cx H w → (results fn a.tmps).run cx.P w = .ok v w) ∧ ∀ w, Sat cx H w → R (.returned v) w
  | .panic ch, _, H => ∀ w, Sat cx H w → R (.panicked ch) w
  | _, _, _ => False

theorem calls_tri {f : FuncId} {c : Code} {args : List Value} {n : Nat} {w : World} {R : Ending → World → Prop} {lent : List Nat} {H : List Chunk} (hf : P.funcs[f]? = some fn) (hb : fn.body = some c) (hn : fn.ntmps = n) (ha : Nat.ble args.length n = true)
    (hs : Sat ⟨P, n, [], w, lent⟩ H w) (h : Tri ⟨P, n, [], w, lent⟩ (argS 0 args) H c (endQ ⟨P, n, [], w, lent⟩ fn R)) : Calls P f args.toArray w R := by
  have hle : args.length ≤ n := Nat.le_of_ble_eq_true ha
  refine calls_of_wp hf hb ?_
  have hh : Has n [] (argS 0 args) { tmps := args.toArray ++ Array.replicate (fn.ntmps - args.toArray.size) undef, defers := [] } := by
    refine ⟨rfl, by simp [hn]; omega, fun d v hd => ?_⟩
    obtain ⟨_, h2⟩ := argS_look args 0 d v hd
    have hlt : d < args.length := by have := (List.getElem?_eq_some_iff.1 h2).1; omega
    rw [Array.getElem?_append_left (by simpa using hlt)]
    simpa using h2
  refine Go.wp_mono (h _ w hh hs) fun e a' w' ⟨fs', H', h1, h2, h3⟩ => ?_
  cases e with
  | normal => obtain ⟨v, hv, hR⟩ := h3; exact ⟨h1.ds, v, hv _ _ h1 h2, hR _ h2⟩
  | ret => obtain ⟨v, hv, hR⟩ := h3; exact ⟨h1.ds, v, hv _ _ h1 h2, hR _ h2⟩
  | panic ch => exact ⟨h1.ds, h3 _ h2⟩
  | exit id => exact h3.elim
  | goto l => exact h3.elim
  | outgrown => exact h3.elim

variable {cx : Cx} {fs : Slots} {H : List Chunk} {R : Ending → World → Prop}
theorem end1 {t : Tmp} {v : Value} (hr : fn.results = #[.tmp t]) (hv : look fs t = some v) (h : ∀ w, Sat cx H w → R (.returned v) w) : endQ cx fn R .ret fs H :=
  ⟨v, fun a w ha _ => by rw [results_tmp hr, ha.get hv], h⟩
theorem end2 {t u : Tmp} {v v' : Value} (hr : fn.results = #[.tmp t, .tmp u]) (hv : look fs t = some v) (hv' : look fs u = some v') (h : ∀ w, Sat cx H w → R (.returned (.tuple #[v, v'])) w) : endQ cx fn R .ret fs H :=
  ⟨_, fun a w ha _ => by rw [results_tmp2 hr, ha.get hv, ha.get hv'], h⟩
theorem end0 (hr : fn.results = #[]) (h : ∀ w, Sat cx H w → R (.returned (.tuple #[])) w) : endQ cx fn R .ret fs H :=
  ⟨_, fun a w _ _ => results_none hr _ _ _, h⟩
theorem end0n (hr : fn.results = #[]) (h : ∀ w, Sat cx H w → R (.returned (.tuple #[])) w) : endQ cx fn R .normal fs H :=
  ⟨_, fun a w _ _ => results_none hr _ _ _, h⟩
/-- The end of a function that only reckons. -/
theorem fin_pure {P n w} {H : List Chunk} {v : Value} : ∀ w', Sat ⟨P, n, [], w, []⟩ H w' → Pure w v (.returned v) w' := fun _ h => ⟨rfl, h.chg⟩
end
end Go.WK
