/- The walk's own frame, ninth part: structs, calls that change memory which is lent to them, scopes, results that lie in cells. Plain lemmas over any program. -/
import Derived.Test.YtdcdpegomncomaaGreatDoorWk8
import Derived.Test.YtdcdpegomncomaaGreatDoorWk6
import Derived.Laws.StructEq
import Derived.Laws.Tables
import Derived.Scope
import Derived.ChangeKeysEq
namespace Go.WK
open Go.RowKit

/-! ### Calls that change what they are lent -/

theorem Sat.cx {P P' : Program} {n n' : Nat} {ds ds' : List Deferred} {w0 w : World} {lent : List Nat} {H : List Chunk} (h : Sat ⟨P, n, ds, w0, lent⟩ H w) : Sat ⟨P', n', ds', w0, lent⟩ H w := ⟨h.chg, h.holds, h.fresh, h.apart⟩

/-- What a callee finds. -/
theorem Sat.lend {cx : Cx} {D F : List Chunk} {w : World} {P : Program} {n : Nat} {ds : List Deferred} {lent : List Nat} (h : Sat cx (D ++ F) w) (hl : ∀ c ∈ D, ∀ k, c.fp k → k ∈ lent) : Sat ⟨P, n, ds, w, lent⟩ D w :=
  ⟨Chg.refl _ _, fun c hc => h.holds c (List.mem_append_left _ hc), fun c hc k hk => .inr (hl c hc k hk), (List.pairwise_append.1 h.apart).1⟩

/-- What it leaves. -/
theorem Sat.frame {cx : Cx} {D D' F : List Chunk} {w w' : World} {P : Program} {n : Nat} {ds : List Deferred} {lent : List Nat} (h : Sat cx (D ++ F) w) (hl : ∀ k ∈ lent, ∃ c ∈ D, c.fp k) (h' : Sat ⟨P, n, ds, w, lent⟩ D' w') : Sat cx (D' ++ F) w' := by
  obtain ⟨-, hF, hDF⟩ := List.pairwise_append.1 h.apart
  have hout : ∀ c ∈ F, ∀ k, c.fp k → k ∉ lent := fun c hc k hk hkl => by
    obtain ⟨d, hd, hdk⟩ := hl k hkl
    exact hDF d hd c hc k hdk hk
  have hlt : ∀ c ∈ F, ∀ k, c.fp k → k < w.heap.size := fun c hc k hk => h.lt (List.mem_append_right _ hc) hk
  refine ⟨⟨h'.chg.os.trans h.chg.os, h'.chg.tape.trans h.chg.tape, h'.chg.output.trans h.chg.output, Nat.le_trans h.chg.size h'.chg.size, fun k hk hkl => ?_⟩, fun c hc => ?_, fun c hc k hk => ?_, List.pairwise_append.2 ⟨h'.apart, hF, fun c hc d hd k hk hdk => ?_⟩⟩
  · refine (h'.chg.block k (Nat.lt_of_lt_of_le hk h.chg.size) (fun hin => ?_)).trans (h.chg.block k hk hkl)
    obtain ⟨d, hd, hdk⟩ := hl k hin
    rcases h.fresh d (List.mem_append_left _ hd) k hdk with h1 | h1
    · omega
    · exact hkl h1
  · rcases List.mem_append.1 hc with hc | hc
    · exact h'.holds c hc
    · exact c.stab w w' (h.holds c (List.mem_append_right _ hc)) (fun k hk => h'.chg.block k (hlt c hc k hk) (hout c hc k hk))
  · rcases List.mem_append.1 hc with hc | hc
    · rcases h'.fresh c hc k hk with h1 | h1
      · exact .inl (Nat.le_trans h.chg.size h1)
      · obtain ⟨d, hd, hdk⟩ := hl k h1
        exact h.fresh d (List.mem_append_left _ hd) k hdk
    · exact h.fresh c (List.mem_append_right _ hc) k hk
  · rcases h'.fresh c hc k hk with h1 | h1
    · have h2 : w.heap.size ≤ k := h1
      exact absurd (hlt d hd k hdk) (by omega)
    · exact hout d hd k hdk h1

/-- What a call that changes memory ends in: a value, and what the lent memory is then. -/
def Turn {J : Type} (w : World) (lent : List Nat) (val : J → Value) (D' : J → List Chunk) (Pu : J → Prop) (e : Ending) (w' : World) : Prop := ∃ j, Pu j ∧ e = .returned (val j) ∧ Sat ⟨default, 0, [], w, lent⟩ (D' j) w'

theorem fin_turn {J : Type} {P : Program} {n : Nat} {w : World} {lent : List Nat} {H : List Chunk} {val : J → Value} {D' : J → List Chunk} {Pu : J → Prop} {v : Value} (j : J) (hv : v = val j) (hp : Pu j) (hH : ∀ w', Sat ⟨P, n, [], w, lent⟩ H w' → Sat ⟨P, n, [], w, lent⟩ (D' j) w') :
    ∀ w', Sat ⟨P, n, [], w, lent⟩ H w' → Turn w lent val D' Pu (.returned v) w' := fun w' h => ⟨j, hp, by rw [hv], (hH w' h).cx⟩

section ops
variable {cx : Cx} {fs : Slots} {H : List Chunk} {Q : Post} {ops : Array Oper} {rest : List Oper} {g : Option (Nat × Bool)} {d : Nat} {ty : TypeId} {pos : String} {af : Array Edge}

/-- A call that is lent the chunks D, which lie side by side. -/
theorem o_callM {J : Type} {f : Operand} {xs : List Operand} {ats : Array TypeId} {fid : FuncId} {first cap : List Value} {vs : List Value} {val : J → Value} {D' : J → List Chunk} {Pu : J → Prop} (H1 D H2 : List Chunk) (lent : List Nat) (hH : H = H1 ++ (D ++ H2)) (hok : okS cx.n ops fs d g = true)
    (hf : ev fs f = some (.func (.func fid) first.toArray cap.toArray)) (hxs : evs fs xs = some vs) (hcf : ∀ args w, (callFunc fid args).run cx.P w = .ok (.enter fid args) w)
    (hl1 : ∀ c ∈ D, ∀ k, c.fp k → k ∈ lent) (hl2 : ∀ k ∈ lent, ∃ c ∈ D, c.fp k)
    (hc : ∀ w, Sat cx H w → Sat ⟨default, 0, [], w, lent⟩ D w → Calls cx.P fid (first ++ vs ++ cap).toArray w (Turn w lent val D' Pu))
    (k : ∀ j, Pu j → TriX false cx ops ((d, val j) :: fs) (H1 ++ (D' j ++ H2)) rest Q) : TriX false cx ops fs H (⟨some d, .call ⟨.value f, xs.toArray, ats⟩, ty, pos, af, g⟩ :: rest) Q := by
  subst hH
  have hp : (H1 ++ (D ++ H2)).Perm (D ++ (H1 ++ H2)) := by
    rw [← List.append_assoc, ← List.append_assoc]
    exact (List.perm_append_comm).append_right H2
  refine o_call val (fun j => H1 ++ (D' j ++ H2)) Pu hok hf hxs hcf (fun w hw => ?_) k
  have hw1 := hw.perm hp
  refine (hc w hw (hw1.lend hl1)).mono fun e w' ⟨j, hpu, he, hs⟩ => ⟨j, hpu, he, ?_⟩
  refine (hw1.frame hl2 hs).perm ?_
  rw [← List.append_assoc, ← List.append_assoc]
  exact (List.perm_append_comm).append_right H2

theorem lend_box {g t : Nat} {cs : List Value} : ∀ c ∈ [box g t cs], ∀ k, c.fp k → k ∈ [g] := fun c hc k hk => by
  obtain rfl := List.mem_singleton.1 hc
  exact List.mem_singleton.2 hk
theorem lend_box' {g t : Nat} {cs : List Value} : ∀ k ∈ [g], ∃ c ∈ [box g t cs], c.fp k := fun k hk => ⟨_, List.mem_singleton.2 rfl, List.mem_singleton.1 hk⟩

theorem lend_row {v : Value} {e s n : Nat} {xs : List Value} : ∀ c ∈ [row v e s n xs], ∀ k, c.fp k → k ∈ v.ownBlock.toList := fun c hc k hk => by
  obtain rfl := List.mem_singleton.1 hc
  have h : v.ownBlock = some k := hk
  simp [h]
theorem lend_row' {v : Value} {e s n : Nat} {xs : List Value} : ∀ k ∈ v.ownBlock.toList, ∃ c ∈ [row v e s n xs], c.fp k := fun k hk => ⟨_, List.mem_singleton.2 rfl, (by simpa using hk : v.ownBlock = some k)⟩
/-- Nothing is a row of nothing. -/
theorem Sat.nilRow {w : World} (e s : Nat) (h : Sat cx H w) : Sat cx (row (.slice none 0 0) e s 0 [] :: H) w :=
  h.push (Chg.refl _ _) _ ⟨by simp, .inl ⟨rfl, rfl⟩⟩ (fun k hk => by cases hk)
theorem setL_take (vs : List Value) : ∀ (cs : List Value) (o m : Nat), (setL cs o vs).take m = setL (cs.take m) o vs := by
  induction vs with
  | nil => intro cs o m; rfl
  | cons v vs ih => intro cs o m; simp only [setL]; rw [ih, List.take_set]
/-- A store of several cells into a row. -/
theorem o_storeRA {x y : Operand} {t e i kk s n c z : Nat} {A : Option Addr} {xs vs : List Value} {v : Value} (hz : szB cx.P t = some z) (hn : Nth H i (row (.slice A n c) e s n xs)) (hok : okW ops fs g = true) (hx : ev fs x = some (ptrAt A kk)) (hy : ev fs y = some v)
    (hv : v.cells = vs.toArray) (hl : vs.length = z) (hpos : 0 < z) (hk : kk + z ≤ xs.length) (h1 : allOne vs = true) (k : TriX false cx ops fs (setH H i (row (.slice A n c) e s n (setL xs kk vs))) rest Q) : TriX false cx ops fs H (⟨none, .store t x y, ty, pos, af, g⟩ :: rest) Q :=
  triL_gen (J := Unit) (fun _ => undef) (fun _ => setH H i (row (.slice A n c) e s n (setL xs kk vs))) (fun _ => True) (okW_want hok) (fun e he => by cases he)
    (fun a w ha hw => by
      have ho : w.ownsRow 0 e s (.slice A n c) n xs := hw.holds _ hn.mem
      obtain ⟨gg, cur, rfl, hh, hnc, hcs, htk⟩ := own_some ho (by omega)
      have hxs : xs.length = n * s := ho.1
      have hcur : n * s ≤ cur.size := by rw [hcs]; exact Nat.mul_le_mul_right s hnc
      have hst := run_storeCells_at cx.P gg kk e vs 0 cur w hh (by omega) (allOne_spec h1)
      simp only [Nat.add_zero] at hst
      have hset : cur.toList.take kk ++ vs ++ cur.toList.drop (kk + vs.length) = setL cur.toList kk vs := (setL_eq vs cur.toList kk (by simp; omega)).symm
      rw [hset] at hst
      refine ⟨(), w.setRow gg (setL cur.toList kk vs).toArray, .inr ⟨?_, rfl⟩, ?_, trivial⟩
      · simp [execOp, ha.eval hx, ha.eval hy, ptrAt, Instr.storeAt, Instr.sureAddr, storeVar, run_sizeB hz, hv, hl, add_lit, hst]
      · have hfpc : ∀ k, (row (.slice (some ⟨gg, 0, none⟩) n c) e s n xs).fp k ↔ k = gg := fun k => by
          show (Value.slice (some ⟨gg, 0, none⟩) n c).ownBlock = some k ↔ k = gg
          simp [Value.ownBlock, eq_comm]
        refine hw.change hn _ ?_ rfl rfl rfl (by simp) (fun k _ hk => heap_setRow_other _ (fun e => hk ((hfpc k).2 e))) (fun k hk => .inl hk)
        have hlen : (setL cur.toList kk vs).length = cur.size := by
          rw [setL_eq vs cur.toList kk (by simp; omega)]; simp; omega
        refine ⟨by rw [setL_eq vs xs kk (by omega)]; simp; omega, .inr ⟨gg, c, _, rfl, Nat.zero_le _, heap_setRow_same _ hh, hnc, ?_, by simp [hlen, hcs], ?_⟩⟩
        · rcases ho.2 with ⟨h3, _⟩ | ⟨_, cap, _, hv2, _, _, _, hcm, _⟩
          · cases h3
          · injection hv2 with _ _ h7; subst h7; exact hcm
        · rw [← htk]; exact setL_take vs cur.toList kk (n * s)) (fun _ _ => k)

/-! ### Structs -/

variable {m : Bool}
theorem o_build {t : TypeId} {parts : List (Nat × Operand)} {ps : List (Nat × Value)} {cs : List Value} (hb : cx.P.built t ps = some cs.toArray) (hok : okS cx.n ops fs d g = true) (hp : evp fs parts = some ps)
    (k : TriX m cx ops ((d, .agg cs.toArray) :: fs) H rest Q) : TriX m cx ops fs H (⟨some d, .build t parts.toArray, ty, pos, af, g⟩ :: rest) Q :=
  triL_val _ hok (fun a w ha _ => by
    have h1 : (parts.toArray.map fun (i, x) => (i, a.eval x)).toList = ps := by
      rw [← ha.evp hp]; simp
    simp only [execOp, Sem.run_bind]
    rw [run_build w t _ cs.toArray (by rw [h1]; exact hb)]
    rfl) k

/-- The kinds of scalars. -/
inductive SK where
  | int (k : IntKind)
  | bool
  | str
def skOf (P : Program) (t : TypeId) : Option SK := match P.underlying t with
  | some (.int k) => some (.int k)
  | some .bool => some .bool
  | some .string => some .str
  | _ => none
def flatFrom (P : Program) : Nat → List Field → Option (List SK)
  | _, [] => some []
  | i, f :: fs => if f.name = "_" ∨ f.offset ≠ i then none else match skOf P f.type, flatFrom P (i + 1) fs with
    | some k, some r => some (k :: r)
    | _, _ => none
/-- A struct of scalars: their kinds. -/
def flatB (P : Program) (t : TypeId) : Option (List SK) := if P.stoodInHeld t || P.eqGuardType P.depth t then none else match P.underlying t with
  | some (.struct fs) => flatFrom P 0 fs.toList
  | _ => none
def sameV : Value → Value → Bool
  | .int _ a, .int _ b => a == b
  | .bool a, .bool b => a == b
  | .string a, .string b => a.toList == b.toList
  | _, _ => false
def sameL : List Value → List Value → Bool
  | [], [] => true
  | a :: l, b :: m => sameV a b && sameL l m
  | _, _ => false
def SK.fits : SK → Value → Bool
  | .int k, .int k' _ => decide (k = k')
  | .bool, .bool _ => true
  | .str, .string _ => true
  | _, _ => false
def fitsL : List SK → List Value → Bool
  | [], [] => true
  | k :: ks, v :: vs => k.fits v && fitsL ks vs
  | _, _ => false

theorem eq_fields {P : Program} (w : World) (d : Nat) : ∀ (fs : List Field) (i : Nat) (ks : List SK) (vs us : List Value) (xs ys : Array Value), flatFrom P i fs = some ks → xs.toList.drop i = vs → ys.toList.drop i = us → fitsL ks vs = true → fitsL ks us = true →
    (Op.eqFields (d + 1) xs ys fs).run P w = .ok (sameL vs us) w
  | [], i, ks, vs, us, xs, ys, hf, hx, hy, h1, h2 => by
    simp only [flatFrom, Option.some.injEq] at hf
    subst hf
    cases vs <;> simp [fitsL] at h1
    cases us <;> simp [fitsL] at h2
    simp [Op.eqFields, sameL]
  | f :: fs, i, ks, vs, us, xs, ys, hf, hx, hy, h1, h2 => by
    unfold flatFrom at hf
    split at hf
    · cases hf
    · rename_i hn
      split at hf
      · rename_i k r hk hr
        simp only [Option.some.injEq] at hf
        subst hf
        cases vs with
        | nil => simp [fitsL] at h1
        | cons v vs =>
        cases us with
        | nil => simp [fitsL] at h2
        | cons u us =>
        simp only [fitsL, Bool.and_eq_true] at h1 h2
        have hname : f.name ≠ "_" := fun h => hn (.inl h)
        have hoff : f.offset = i := Decidable.byContradiction fun h => hn (.inr h)
        have gx : xs[i]? = some v := by
          have : (xs.toList.drop i)[0]? = some v := by rw [hx]; rfl
          rw [List.getElem?_drop] at this
          simpa using this
        have gy : ys[i]? = some u := by
          have : (ys.toList.drop i)[0]? = some u := by rw [hy]; rfl
          rw [List.getElem?_drop] at this
          simpa using this
        have tx : xs.toList.drop (i + 1) = vs := by rw [← List.tail_drop, hx]; rfl
        have ty : ys.toList.drop (i + 1) = us := by rw [← List.tail_drop, hy]; rfl
        have ih := eq_fields w d fs (i + 1) r vs us xs ys hr tx ty h1.2 h2.2
        have pl : ∀ (zs : Array Value) (z : Value), zs[i]? = some z → (part f.type zs f.offset).run P w = .ok z w := fun zs z hz => by
          rw [hoff]
          unfold skOf at hk
          cases hu : P.underlying f.type with
          | none => simp [hu] at hk
          | some de => cases de <;> simp [hu] at hk <;> simp [part, isAgg, run_underlying hu, hz]
        have heq : (Op.equalIn (d + 1) f.type v u).run P w = .ok (sameV v u) w := by
          unfold skOf at hk
          split at hk
          · rename_i k0 hu
            cases hk
            cases v <;> simp [SK.fits] at h1
            cases u <;> simp [SK.fits] at h2
            obtain ⟨rfl, _⟩ := h1
            obtain ⟨rfl, _⟩ := h2
            rw [run_equalIn_int w d f.type _ _ _ _ hu]
            rfl
          · rename_i hu
            cases hk
            cases v <;> simp [SK.fits] at h1
            cases u <;> simp [SK.fits] at h2
            rw [run_equalIn_bool' w d f.type _ _ hu]
            rfl
          · rename_i hu
            cases hk
            cases v <;> simp [SK.fits] at h1
            cases u <;> simp [SK.fits] at h2
            rw [run_equalIn_string w d f.type _ _ hu]
            rfl
          · cases hk
        simp only [Op.eqFields, if_pos hname, Sem.run_bind, pl xs v gx, pl ys u gy, heq, Result.andThen_ok, sameL]
        cases sameV v u with
        | true => simpa using ih
        | false => simp
      · cases hf

theorem flat_eql {P : Program} {t : TypeId} {ks : List SK} {vs us : List Value} (w : World) (hf : flatB P t = some ks) (h1 : fitsL ks vs = true) (h2 : fitsL ks us = true) : (Op.equalIn 10000 t (.agg vs.toArray) (.agg us.toArray)).run P w = .ok (sameL vs us) w := by
  unfold flatB at hf
  split at hf
  · cases hf
  · rename_i hg
    simp only [Bool.or_eq_true, not_or, Bool.not_eq_true] at hg
    split at hf
    · rename_i fields hu
      have e : P.fieldsOf t = fields := by simp [Program.fieldsOf, hu]
      rw [show (10000 : Nat) = 9999 + 1 from rfl, run_equalIn_struct w 9999 t _ _ (by rw [e]; exact hu) hg.1, e]
      exact eq_fields w 9998 fields.toList 0 ks vs us _ _ hf (by simp) (by simp) h1 h2
    · cases hf
theorem flat_guard {P : Program} {t : TypeId} {ks : List SK} (hf : flatB P t = some ks) : P.eqGuardType P.depth t = false := by
  unfold flatB at hf
  split at hf
  · cases hf
  · rename_i hg
    simp only [Bool.or_eq_true, not_or, Bool.not_eq_true] at hg
    exact hg.2
theorem run_binG {P : Program} {a : Act} {w : World} {op : BinOp} {t yt : TypeId} {x y : Operand} {u v r : Value} {dd : Option Tmp} (e1 : a.eval x = u) (e2 : a.eval y = v) (hg : (eqGuard op t x y u v).run P w = .ok () w)
    (hr : (binOp op t u v).run P w = .ok r w) : (execOp a.eval ⟨dd, .binOp op t x y yt, ty, pos, af, g⟩).run P w = .ok (.value r) w := by
  simp only [execOp, e1, e2, Sem.run_bind, hg, Result.andThen_ok]
  simp [hr]
section
variable {x y : Operand} {t yt : TypeId} {ks : List SK} {vs us : List Value} (hf : flatB cx.P t = some ks) (hok : okS cx.n ops fs d g = true) (hx : ev fs x = some (.agg vs.toArray)) (hy : ev fs y = some (.agg us.toArray)) (h1 : fitsL ks vs = true) (h2 : fitsL ks us = true)
include hf hok hx hy h1 h2
theorem o_eqlA (k : TriX m cx ops ((d, .bool (sameL vs us)) :: fs) H rest Q) : TriX m cx ops fs H (⟨some d, .binOp .eql t x y yt, ty, pos, af, g⟩ :: rest) Q :=
  triL_val _ hok (fun a w ha _ => run_binG (ha.eval hx) (ha.eval hy) (run_eqGuard_agg w _ t _ _ _ _ (flat_guard hf)) (by
    rw [run_eql_struct, flat_eql w hf h1 h2]; rfl)) k
theorem o_neqA (k : TriX m cx ops ((d, .bool (!(sameL vs us))) :: fs) H rest Q) : TriX m cx ops fs H (⟨some d, .binOp .neq t x y yt, ty, pos, af, g⟩ :: rest) Q :=
  triL_val _ hok (fun a w ha _ => run_binG (ha.eval hx) (ha.eval hy) (run_eqGuard_agg w _ t _ _ _ _ (flat_guard hf)) (by
    rw [run_neq_struct, flat_eql w hf h1 h2]; rfl)) k
end
end ops

/-! ### Bytes -/
section ops
variable {m : Bool} {cx : Cx} {fs : Slots} {H : List Chunk} {Q : Post} {ops : Array Oper} {rest : List Oper} {g : Option (Nat × Bool)} {d : Nat} {ty : TypeId} {pos : String} {af : Array Edge}
variable {x y : Operand} {t yt u : TypeId}
theorem o_eqlU8 (a b : UInt8) (hok : okS cx.n ops fs d g = true) (hx : ev fs x = some (byteV a)) (hy : ev fs y = some (byteV b)) (k : TriX m cx ops ((d, .bool (decide (a = b))) :: fs) H rest Q) : TriX m cx ops fs H (⟨some d, .binOp .eql t x y yt, ty, pos, af, g⟩ :: rest) Q :=
  o_eqlI hok hx hy (by
    have : decide ((a.toNat : Int) = (b.toNat : Int)) = decide (a = b) := by
      apply decide_eq_decide.2
      constructor
      · intro h; exact UInt8.toNat_inj.1 (by omega)
      · intro h; rw [h]
    rw [this]; exact k)
theorem o_neqU8 (a b : UInt8) (hok : okS cx.n ops fs d g = true) (hx : ev fs x = some (byteV a)) (hy : ev fs y = some (byteV b)) (k : TriX m cx ops ((d, .bool (decide (a ≠ b))) :: fs) H rest Q) : TriX m cx ops fs H (⟨some d, .binOp .neq t x y yt, ty, pos, af, g⟩ :: rest) Q :=
  o_neqI hok hx hy (by
    have : decide ((a.toNat : Int) ≠ (b.toNat : Int)) = decide (a ≠ b) := by
      apply decide_eq_decide.2
      constructor
      · intro h e; exact h (by rw [e])
      · intro h e; exact h (UInt8.toNat_inj.1 (by omega))
    rw [this]; exact k)
theorem o_xorU8 (a b : UInt8) (hok : okS cx.n ops fs d g = true) (hx : ev fs x = some (byteV a)) (hy : ev fs y = some (byteV b)) (k : TriX m cx ops ((d, byteV (a ^^^ b)) :: fs) H rest Q) : TriX m cx ops fs H (⟨some d, .binOp .xor t x y yt, ty, pos, af, g⟩ :: rest) Q :=
  o_xor hok hx hy (by
    have : Value.int .u8 (IntKind.u8.wrap ((BitVec.ofInt IntKind.u8.bits (a.toNat : Int) ^^^ BitVec.ofInt IntKind.u8.bits (b.toNat : Int)).toNat : Int)) = byteV (a ^^^ b) := by
      have h1 := (a ^^^ b).toNat_lt
      have h2 : ∀ c : UInt8, BitVec.ofInt 8 (c.toNat : Int) = c.toBitVec := fun c => by rw [BitVec.ofInt_natCast]; simp
      have h3 : (BitVec.ofInt 8 (a.toNat : Int) ^^^ BitVec.ofInt 8 (b.toNat : Int)).toNat = (a ^^^ b).toNat := by rw [h2, h2]; rfl
      show Value.int .u8 (IntKind.u8.wrap ((BitVec.ofInt 8 (a.toNat : Int) ^^^ BitVec.ofInt 8 (b.toNat : Int)).toNat : Int)) = _
      rw [h3]
      simp only [byteV, IntKind.wrap, IntKind.bits, IntKind.signed]
      congr 1
      simp only [Bool.false_and, Bool.false_eq_true, if_false]
      omega
    rw [this]; exact k)
end ops
theorem rd_byte (l : List UInt8) {kk : Nat} (k : Nat) (h : kk = k) (hk : k < l.length) : (bytesV l)[kk]? = some (byteV (l.getD k 0)) := by subst h; exact bytesV_get l kk hk


/-! ### Scopes -/
def scopeQ (Q : Post) : Post := fun e fs H => match e with
  | .goto _ => False
  | e => Q e fs H
section
variable {cx : Cx} {fs : Slots} {H : List Chunk} {Q : Post}
theorem tri_scope {c : Code} (h : Tri cx fs H c (scopeQ Q)) : Tri cx fs H (.scope c) Q := fun a w ha hw =>
  wp_scope_straight (Go.wp_mono (h a w ha hw) fun e a' w' ⟨fs', H', h1, h2, h3⟩ => by
    cases e <;> first | exact h3.elim | exact ⟨fs', H', h1, h2, h3⟩)
theorem scopeQ_normal (h : Q .normal fs H) : scopeQ Q .normal fs H := h
theorem scopeQ_ret (h : Q .ret fs H) : scopeQ Q .ret fs H := h
theorem scopeQ_exit {i : Nat} (h : Q (.exit i) fs H) : scopeQ Q (.exit i) fs H := h
end

/-! ### Results that lie in cells -/
section
variable {cx : Cx} {fs : Slots} {H : List Chunk} {fn : Func} {R : Ending → World → Prop}
theorem cells_box {w : World} {b bt : Nat} {cs : List Value} {o z : Nat} {vs : List Value} (hb : w.heap[b]? = some (.cells cs.toArray bt (0, 0))) (hv : (cs.drop o).take z = vs) : ∀ j v, vs[j]? = some v → w.cell? ((⟨b, o, none⟩ : Addr).add j) = some v := fun j v hj => by
  rw [add_lit, cell_of_row w b _ cs.toArray bt (0, 0) hb]
  rw [← hv, List.getElem?_take] at hj
  split at hj
  · simpa using hj
  · cases hj
theorem results_cell2 {P : Program} {w : World} {t : TypeId} {x u : Tmp} {a : Addr} {vs : List Value} {tmps : Array Value} (hr : fn.results = #[.cell x t, .tmp u]) (hx : tmps.getD x undef = .pointer (some a)) (ht : aggB P t = some true) (hz : szB P t = some vs.length) (hc : ∀ j v, vs[j]? = some v → w.cell? (a.add j) = some v) :
    (results fn tmps).run P w = .ok (.tuple #[.agg vs.toArray, tmps.getD u undef]) w := by
  have hx' : tmps[x]?.getD undef = .pointer (some a) := by simpa using hx
  simp [results, hr, hx', asAddr, loadVar, run_isAggB ht, run_sizeB hz, run_loadCells_list w a vs hc]
theorem results_cell1 {P : Program} {w : World} {t : TypeId} {x : Tmp} {a : Addr} {vs : List Value} {tmps : Array Value} (hr : fn.results = #[.cell x t]) (hx : tmps.getD x undef = .pointer (some a)) (ht : aggB P t = some true) (hz : szB P t = some vs.length) (hc : ∀ j v, vs[j]? = some v → w.cell? (a.add j) = some v) :
    (results fn tmps).run P w = .ok (.agg vs.toArray) w := by
  have hx' : tmps[x]?.getD undef = .pointer (some a) := by simpa using hx
  simp [results, hr, hx', asAddr, loadVar, run_isAggB ht, run_sizeB hz, run_loadCells_list w a vs hc]
theorem endC2 {t : TypeId} {x u : Tmp} {b bt i z : Nat} {cs : List Value} {v : Value} (hr : fn.results = #[.cell x t, .tmp u]) (ht : aggB cx.P t = some true) (hz : szB cx.P t = some z) (hn : Nth H i (box b bt cs)) (hx : look fs x = some (.pointer (some ⟨b, 0, none⟩))) (hl : cs.length = z) (hv : look fs u = some v)
    (h : ∀ w, Sat cx H w → R (.returned (.tuple #[.agg cs.toArray, v])) w) : endQ cx fn R .ret fs H :=
  ⟨_, fun a w ha hw => by
    rw [results_cell2 (vs := cs) hr (ha.get hx) ht (by rw [hz, hl]) (cells_box (hw.holds _ hn.mem) (z := cs.length) (by simp)), ha.get hv], h⟩
theorem endC1 {t : TypeId} {x : Tmp} {b bt i z : Nat} {cs : List Value} (hr : fn.results = #[.cell x t]) (ht : aggB cx.P t = some true) (hz : szB cx.P t = some z) (hn : Nth H i (box b bt cs)) (hx : look fs x = some (.pointer (some ⟨b, 0, none⟩))) (hl : cs.length = z)
    (h : ∀ w, Sat cx H w → R (.returned (.agg cs.toArray)) w) : endQ cx fn R .ret fs H :=
  ⟨_, fun a w ha hw => by
    rw [results_cell1 (vs := cs) hr (ha.get hx) ht (by rw [hz, hl]) (cells_box (hw.holds _ hn.mem) (z := cs.length) (by simp))], h⟩
end
end Go.WK
