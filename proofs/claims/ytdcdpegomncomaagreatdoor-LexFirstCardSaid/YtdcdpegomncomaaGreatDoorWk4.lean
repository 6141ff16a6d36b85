/- The walk's own frame, fourth part: texts, slices, the builtins. Plain lemmas over any program. -/
import Derived.Test.YtdcdpegomncomaaGreatDoorWk3
import Derived.Maps.AppendAt
import Derived.Laws.CopyOwn
namespace Go.WK
open Go.RowKit

theorem idx_nat {i : Int} {n : Nat} (h0 : 0 ≤ i) (h1 : i < n) : i.toNat < n := by omega

section ops
variable {md : Bool}
variable {cx : Cx} {fs : Slots} {H : List Chunk} {Q : Post} {ops : Array Oper} {rest : List Oper} {g : Option (Nat × Bool)} {d : Nat} {ty : TypeId} {pos : String} {af : Array Edge}

/-! ### Lengths -/
theorem run_call_builtin {P : Program} {a : Act} {w : World} {b : Builtin} {xs : List Operand} {ats : Array TypeId} {dd : Option Tmp} {vs : List Value} {n : Nat} {ds : List Deferred} (ha : Has n ds fs a) (hxs : evs fs xs = some vs) {r : Result Next}
    (hr : (builtin b ats ty (xs.toArray.map fun | .const _ => true | _ => false) vs.toArray).run P w = r) : (execOp a.eval ⟨dd, .call ⟨.builtin b, xs.toArray, ats⟩, ty, pos, af, g⟩).run P w = r := by
  simp only [execOp, resolve, pure_bind, invoke]
  rw [show Array.map a.eval xs.toArray = vs.toArray by simp [ha.evals hxs]]
  exact hr

theorem o_lenS {x : Operand} {t e : TypeId} {A : Option Addr} {n c : Nat} (ht : cx.P.underlying t = some (.slice e)) (hok : okS cx.n ops fs d g = true) (hx : ev fs x = some (.slice A n c))
    (k : TriX md cx ops ((d, .int .i64 (n : Int)) :: fs) H rest Q) : TriX md cx ops fs H (⟨some d, .call ⟨.builtin .len, #[x], #[t]⟩, ty, pos, af, g⟩ :: rest) Q :=
  triL_val _ hok (fun a w ha _ => run_call_builtin (xs := [x]) (vs := [.slice A n c]) ha (by simp [evs, hx]) (by simp [builtin, Builtin.len_, run_underlying ht, goInt])) k
theorem o_lenB {x : Operand} {t : TypeId} {l : List UInt8} (ht : cx.P.underlying t = some .string) (hok : okS cx.n ops fs d g = true) (hx : ev fs x = some (.string (B l)))
    (k : TriX md cx ops ((d, .int .i64 (l.length : Int)) :: fs) H rest Q) : TriX md cx ops fs H (⟨some d, .call ⟨.builtin .len, #[x], #[t]⟩, ty, pos, af, g⟩ :: rest) Q :=
  triL_val _ hok (fun a w ha _ => run_call_builtin (xs := [x]) (vs := [.string (B l)]) ha (by simp [evs, hx]) (by have h := run_len_string w t ty (B l) ht; rw [B_size] at h; simp [builtin, h, goInt])) k
theorem o_min {x y : Operand} {ats : Array TypeId} {ki kj : IntKind} {p q : Int} (hok : okS cx.n ops fs d g = true) (hx : ev fs x = some (.int ki p)) (hy : ev fs y = some (.int kj q))
    (k : TriX md cx ops ((d, .int ki (min p q)) :: fs) H rest Q) : TriX md cx ops fs H (⟨some d, .call ⟨.builtin .min, #[x, y], ats⟩, ty, pos, af, g⟩ :: rest) Q :=
  triL_val _ hok (fun a w ha _ => run_call_builtin (xs := [x, y]) (vs := [.int ki p, .int kj q]) ha (by simp [evs, hx, hy]) (by
    have : (if q < p then q else p) = min p q := by split <;> omega
    simp [builtin, Builtin.min_, Builtin.min2, this])) k
theorem o_max {x y : Operand} {ats : Array TypeId} {ki kj : IntKind} {p q : Int} (hok : okS cx.n ops fs d g = true) (hx : ev fs x = some (.int ki p)) (hy : ev fs y = some (.int kj q))
    (k : TriX md cx ops ((d, .int ki (max p q)) :: fs) H rest Q) : TriX md cx ops fs H (⟨some d, .call ⟨.builtin .max, #[x, y], ats⟩, ty, pos, af, g⟩ :: rest) Q :=
  triL_val _ hok (fun a w ha _ => run_call_builtin (xs := [x, y]) (vs := [.int ki p, .int kj q]) ha (by simp [evs, hx, hy]) (by
    have : (if p < q then q else p) = max p q := by split <;> omega
    simp [builtin, Builtin.max_, Builtin.max2, this])) k

/-! ### Texts -/
theorem o_idxB {x y : Operand} {t : TypeId} {l : List UInt8} {ki : IntKind} {i : Int} (ht : cx.P.underlying t = some .string) (hok : okS cx.n ops fs d g = true) (hx : ev fs x = some (.string (B l))) (hy : ev fs y = some (.int ki i)) (h0 : 0 ≤ i) (h1 : i < l.length)
    (k : TriX md cx ops ((d, byteV (l.getD i.toNat 0)) :: fs) H rest Q) : TriX md cx ops fs H (⟨some d, .index t x y, ty, pos, af, g⟩ :: rest) Q :=
  triL_val _ hok (fun a w ha _ => by
    have hlt : i.toNat < l.length := by omega
    have hs : 0 ≤ i ∧ i < ((B l).size : Int) := by rw [B_size]; exact ⟨h0, h1⟩
    have hb : (B l)[i.toNat]'(by rw [B_size]; exact hlt) = l.getD i.toNat 0 := by
      simp [List.getD, hlt]; rfl
    simp only [execOp, ha.eval hx, ha.eval hy, Sem.run_bind, run_index_string w t (B l) ki i ht, dif_pos hs, hb]
    rfl) k
theorem sl_string {P : Program} {w : World} {t : TypeId} {l : List UInt8} {lo hi : Option Value} {a b : Nat} (ht : P.underlying t = some .string) (hlo : lo = none ∧ a = 0 ∨ ∃ k, lo = some (.int k (a : Int))) (hhi : hi = none ∧ b = l.length ∨ ∃ k, hi = some (.int k (b : Int)))
    (hab : a ≤ b) (hb : b ≤ l.length) : (Instr.sliceAt t (.string (B l)) lo hi none).run P w = .ok (.string (B ((l.drop a).take (b - a)))) w := by
  have hb' : (b : Int) ≤ l.length := by omega
  have ha' : (a : Int) ≤ b := by omega
  have he : (B l).extract a b = B ((l.drop a).take (b - a)) := ByteArray.extract_mk l a b
  have hsz : (B l).size = l.length := B_size l
  rw [run_sliceAt_string w t _ lo hi none ht, ← he]
  generalize B l = S at hsz ⊢
  rw [← hsz] at hb hb'
  have hbl : b ≤ l.length := by omega
  have hbl' : (b : Int) ≤ l.length := by omega
  have hS : S.extract 0 l.length = S := by rw [← hsz]; exact ByteArray.extract_zero_size
  rcases hlo with ⟨rfl, rfl⟩ | ⟨k1, rfl⟩ <;> rcases hhi with ⟨rfl, rfl⟩ | ⟨k2, rfl⟩ <;>
    simp [Instr.slice, Instr.sliceBounds, Instr.sliceBound, asIntOf, run_underlying ht, hab, ha', hbl, hbl', hsz, hS]
theorem o_sliceB {x y z : Operand} {t : TypeId} {l : List UInt8} {k1 k2 : IntKind} {i j : Int} (ht : cx.P.underlying t = some .string) (hok : okS cx.n ops fs d g = true) (hx : ev fs x = some (.string (B l))) (hy : ev fs y = some (.int k1 i)) (hz : ev fs z = some (.int k2 j))
    (h0 : 0 ≤ i) (h1 : i ≤ j) (h2 : j ≤ l.length) (k : TriX md cx ops ((d, .string (B ((l.drop i.toNat).take (j.toNat - i.toNat)))) :: fs) H rest Q) : TriX md cx ops fs H (⟨some d, .slice t x (some y) (some z) none, ty, pos, af, g⟩ :: rest) Q :=
  triL_val _ hok (fun a w ha _ => by
    obtain ⟨p, rfl⟩ := Int.eq_ofNat_of_zero_le h0
    obtain ⟨q, rfl⟩ := Int.eq_ofNat_of_zero_le (show 0 ≤ j by omega)
    simp only [execOp, ha.eval hx, ha.eval hy, ha.eval hz, Option.map_some, Option.map_none, Sem.run_bind, Int.toNat_natCast]
    rw [sl_string (a := p) (b := q) ht (.inr ⟨k1, rfl⟩) (.inr ⟨k2, rfl⟩) (by omega) (by omega)]
    rfl) k
theorem o_sliceBl {x y : Operand} {t : TypeId} {l : List UInt8} {k1 : IntKind} {i : Int} (ht : cx.P.underlying t = some .string) (hok : okS cx.n ops fs d g = true) (hx : ev fs x = some (.string (B l))) (hy : ev fs y = some (.int k1 i))
    (h0 : 0 ≤ i) (h2 : i ≤ l.length) (k : TriX md cx ops ((d, .string (B (l.drop i.toNat))) :: fs) H rest Q) : TriX md cx ops fs H (⟨some d, .slice t x (some y) none none, ty, pos, af, g⟩ :: rest) Q :=
  triL_val _ hok (fun a w ha _ => by
    obtain ⟨p, rfl⟩ := Int.eq_ofNat_of_zero_le h0
    simp only [execOp, ha.eval hx, ha.eval hy, Option.map_some, Option.map_none, Sem.run_bind, Int.toNat_natCast]
    rw [sl_string (a := p) (b := l.length) ht (.inr ⟨k1, rfl⟩) (.inl ⟨rfl, rfl⟩) (by omega) (by omega), List.take_of_length_le (by simp)]
    rfl) k
theorem o_sliceBh {x z : Operand} {t : TypeId} {l : List UInt8} {k2 : IntKind} {j : Int} (ht : cx.P.underlying t = some .string) (hok : okS cx.n ops fs d g = true) (hx : ev fs x = some (.string (B l))) (hz : ev fs z = some (.int k2 j))
    (h1 : 0 ≤ j) (h2 : j ≤ l.length) (k : TriX md cx ops ((d, .string (B (l.take j.toNat))) :: fs) H rest Q) : TriX md cx ops fs H (⟨some d, .slice t x none (some z) none, ty, pos, af, g⟩ :: rest) Q :=
  triL_val _ hok (fun a w ha _ => by
    obtain ⟨q, rfl⟩ := Int.eq_ofNat_of_zero_le h1
    simp only [execOp, ha.eval hx, ha.eval hz, Option.map_some, Option.map_none, Sem.run_bind, Int.toNat_natCast]
    rw [sl_string (a := 0) (b := q) ht (.inl ⟨rfl, rfl⟩) (.inr ⟨k2, rfl⟩) (by omega) (by omega)]
    rfl) k
theorem o_cat {x y : Operand} {t yt : TypeId} {l m : List UInt8} (hok : okS cx.n ops fs d g = true) (hx : ev fs x = some (.string (B l))) (hy : ev fs y = some (.string (B m))) (hb : l.length + m.length ≤ 9223372036854775807)
    (k : TriX md cx ops ((d, .string (B (l ++ m))) :: fs) H rest Q) : TriX md cx ops fs H (⟨some d, .binOp .add t x y yt, ty, pos, af, g⟩ :: rest) Q :=
  triL_val _ hok (fun a w ha _ => run_bin (ha.eval hx) (ha.eval hy) rfl (by
    have h1 : ¬ ((((B l).size + (B m).size : Nat) : Int) > IntKind.i64.max) := by rw [B_size, B_size, IntKind.max_i64]; omega
    have h2 : B l ++ B m = B (l ++ m) := by apply ByteArray.ext; simp
    simp only [binOp_string_add, Op.stringOp, if_neg h1, h2]
    rfl)) k
section
variable {x y : Operand} {t yt : TypeId} {l m : List UInt8}
variable (hok : okS cx.n ops fs d g = true) (hx : ev fs x = some (.string (B l))) (hy : ev fs y = some (.string (B m)))
include hok hx hy
theorem o_eqlT (k : TriX md cx ops ((d, .bool (decide (l = m))) :: fs) H rest Q) : TriX md cx ops fs H (⟨some d, .binOp .eql t x y yt, ty, pos, af, g⟩ :: rest) Q :=
  triL_val _ hok (fun a w ha _ => run_bin (ha.eval hx) (ha.eval hy) (eqGuard_at_string _ _ _ _ _ _) (by
    rw [binOp_string_eql, B_toList, B_toList]
    have : (l == m) = decide (l = m) := by by_cases h : l = m <;> simp [h]
    rw [this]; rfl)) k
theorem o_neqT (k : TriX md cx ops ((d, .bool (decide (l ≠ m))) :: fs) H rest Q) : TriX md cx ops fs H (⟨some d, .binOp .neq t x y yt, ty, pos, af, g⟩ :: rest) Q :=
  triL_val _ hok (fun a w ha _ => run_bin (ha.eval hx) (ha.eval hy) (eqGuard_at_string _ _ _ _ _ _) (by
    rw [binOp_string_neq, B_toList, B_toList]
    have : (!(l == m)) = decide (l ≠ m) := by by_cases h : l = m <;> simp [h]
    rw [this]; rfl)) k
theorem o_lssT (k : TriX md cx ops ((d, .bool (Op.bytesLess l m)) :: fs) H rest Q) : TriX md cx ops fs H (⟨some d, .binOp .lss t x y yt, ty, pos, af, g⟩ :: rest) Q :=
  triL_val _ hok (fun a w ha _ => run_bin (ha.eval hx) (ha.eval hy) rfl (by rw [binOp_string_lss, B_toList, B_toList]; rfl)) k
theorem o_leqT (k : TriX md cx ops ((d, .bool (Op.bytesLess l m || decide (l = m))) :: fs) H rest Q) : TriX md cx ops fs H (⟨some d, .binOp .leq t x y yt, ty, pos, af, g⟩ :: rest) Q :=
  triL_val _ hok (fun a w ha _ => run_bin (ha.eval hx) (ha.eval hy) rfl (by
    have : (l == m) = decide (l = m) := by by_cases h : l = m <;> simp [h]
    simp only [binOp, Op.stringOp, B_toList, this]; rfl)) k
theorem o_gtrT (k : TriX md cx ops ((d, .bool (!(Op.bytesLess l m || decide (l = m)))) :: fs) H rest Q) : TriX md cx ops fs H (⟨some d, .binOp .gtr t x y yt, ty, pos, af, g⟩ :: rest) Q :=
  triL_val _ hok (fun a w ha _ => run_bin (ha.eval hx) (ha.eval hy) rfl (by
    have : (l == m) = decide (l = m) := by by_cases h : l = m <;> simp [h]
    simp only [binOp, Op.stringOp, B_toList, this]; rfl)) k
theorem o_geqT (k : TriX md cx ops ((d, .bool (!(Op.bytesLess l m))) :: fs) H rest Q) : TriX md cx ops fs H (⟨some d, .binOp .geq t x y yt, ty, pos, af, g⟩ :: rest) Q :=
  triL_val _ hok (fun a w ha _ => run_bin (ha.eval hx) (ha.eval hy) rfl (by simp only [binOp, Op.stringOp, B_toList]; rfl)) k
end
/-- 'string(b)'. -/
theorem foldl_push (l : List UInt8) : ∀ s : ByteArray, (l.map fun b => (b.toNat : Int)).foldl (fun r n => r.push (UInt8.ofNat n.toNat)) s = s ++ B l := by
  induction l with
  | nil => intro s; apply ByteArray.ext; simp
  | cons b l ih => intro s; simp only [List.map_cons, List.foldl_cons, ih]; apply ByteArray.ext; simp
theorem o_toText {x : Operand} {t u e : TypeId} {A : Option Addr} {n c : Nat} {l : List UInt8} (ht : cx.P.underlying t = some (.slice e)) (he : cx.P.underlying e = some (.int .u8)) (hu : cx.P.underlying u = some .string) (hok : okS cx.n ops fs d g = true)
    (hx : ev fs x = some (.slice A n c)) (hr : RdS cx H A (bytesV l)) (hn : n = l.length) (k : TriX md cx ops ((d, .string (B l)) :: fs) H rest Q) : TriX md cx ops fs H (⟨some d, .convert t u x, ty, pos, af, g⟩ :: rest) Q :=
  triL_val _ hok (fun a w ha hw => by
    simp only [execOp, ha.eval hx, Sem.run_bind, run_convert_bytes_string w t u e A n c ht he hu]
    cases A with
    | none =>
      have : l = [] := by
        cases l with
        | nil => rfl
        | cons b r => obtain ⟨a0, h, _⟩ := hr w hw 0 (byteV b) (by simp [bytesV]); cases h
      subst this
      simp [Conv.bytesToString]; rfl
    | some a0 =>
      have hl : (loadCells a0 n).run cx.P w = .ok ((l.map fun b => (b.toNat : Int)).map (Value.int .u8)).toArray w := by
        have := run_loadCells_list (P := cx.P) w a0 (bytesV l) (fun j v hj => by obtain ⟨a1, h1, h2⟩ := hr w hw j v hj; cases h1; exact h2)
        rw [bytesV_length, ← hn] at this
        rw [this]; simp [bytesV, byteV, Function.comp_def]
      rw [run_bytesToString w a0 n c _ hl, foldl_push]
      have : ByteArray.empty ++ B l = B l := by apply ByteArray.ext; simp
      rw [this]; rfl) k

/-! ### Slices -/
theorem o_idxS {x y : Operand} {t e : TypeId} {A : Option Addr} {n c s : Nat} {ki : IntKind} {i : Int} {xs : List Value} (ht : cx.P.underlying t = some (.slice e)) (hs : szB cx.P e = some s) (hok : okS cx.n ops fs d g = true) (hx : ev fs x = some (.slice A n c)) (hy : ev fs y = some (.int ki i))
    (hr : RdS cx H A xs) (h0 : 0 ≤ i) (h1 : i < n) (hl : xs.length = n * s) (hpos : 0 < s) (k : TriX md cx ops ((d, ptrAt A (i.toNat * s)) :: fs) H rest Q) : TriX md cx ops fs H (⟨some d, .indexAddr t x y, ty, pos, af, g⟩ :: rest) Q :=
  triL_val _ hok (fun a w ha hw => by
    obtain ⟨p, rfl⟩ := Int.eq_ofNat_of_zero_le h0
    have hp : p < n := by omega
    have hlt : 0 < xs.length := by rw [hl]; exact Nat.mul_pos (by omega) hpos
    obtain ⟨a0, rfl, _⟩ := hr w hw 0 _ (List.getElem?_eq_getElem hlt)
    simp [execOp, ha.eval hx, ha.eval hy, Instr.indexAt, asIntOf, run_underlying ht, run_sizeB hs, hp, ptrAt]) k
theorem sl_slice {P : Program} {w : World} {t e : TypeId} {A : Option Addr} {n c s : Nat} {lo hi : Option Value} {a b : Nat} (ht : P.underlying t = some (.slice e)) (hs : szB P e = some s) (hlo : lo = none ∧ a = 0 ∨ ∃ k, lo = some (.int k (a : Int)))
    (hhi : hi = none ∧ b = n ∨ ∃ k, hi = some (.int k (b : Int))) (hab : a ≤ b) (hb : b ≤ c) : (Instr.sliceAt t (.slice A n c) lo hi none).run P w = .ok (.slice (cutA A c a s) (b - a) (c - a)) w := by
  have hb' : (b : Int) ≤ c := by omega
  have ha' : (a : Int) ≤ b := by omega
  have ht' : P.underlying t = some (.slice (P.elem t)) := by rw [ht, Program.elem, ht]
  rw [run_sliceAt_slice w t _ lo hi none ht']
  rcases hlo with ⟨rfl, rfl⟩ | ⟨k1, rfl⟩ <;> rcases hhi with ⟨rfl, rfl⟩ | ⟨k2, rfl⟩ <;>
    simp [Instr.slice, Instr.sliceBounds, Instr.sliceBound, asIntOf, run_underlying ht, run_sizeB hs, hab, hb, ha', hb', cutA]
theorem o_sliceS {x y z : Operand} {t e : TypeId} {A : Option Addr} {n c s : Nat} {k1 k2 : IntKind} {i j : Int} (ht : cx.P.underlying t = some (.slice e)) (hs : szB cx.P e = some s) (hok : okS cx.n ops fs d g = true) (hx : ev fs x = some (.slice A n c)) (hy : ev fs y = some (.int k1 i)) (hz : ev fs z = some (.int k2 j))
    (h0 : 0 ≤ i) (h1 : i ≤ j) (h2 : j ≤ c) (k : TriX md cx ops ((d, .slice (cutA A c i.toNat s) (j.toNat - i.toNat) (c - i.toNat)) :: fs) H rest Q) : TriX md cx ops fs H (⟨some d, .slice t x (some y) (some z) none, ty, pos, af, g⟩ :: rest) Q :=
  triL_val _ hok (fun a w ha _ => by
    obtain ⟨p, rfl⟩ := Int.eq_ofNat_of_zero_le h0
    obtain ⟨q, rfl⟩ := Int.eq_ofNat_of_zero_le (show 0 ≤ j by omega)
    simp only [execOp, ha.eval hx, ha.eval hy, ha.eval hz, Option.map_some, Option.map_none, Sem.run_bind, Int.toNat_natCast]
    rw [sl_slice (a := p) (b := q) ht hs (.inr ⟨k1, rfl⟩) (.inr ⟨k2, rfl⟩) (by omega) (by omega)]
    rfl) k
theorem o_sliceSl {x y : Operand} {t e : TypeId} {A : Option Addr} {n c s : Nat} {k1 : IntKind} {i : Int} (ht : cx.P.underlying t = some (.slice e)) (hs : szB cx.P e = some s) (hok : okS cx.n ops fs d g = true) (hx : ev fs x = some (.slice A n c)) (hy : ev fs y = some (.int k1 i))
    (h0 : 0 ≤ i) (h1 : i ≤ n) (h2 : n ≤ c) (k : TriX md cx ops ((d, .slice (cutA A c i.toNat s) (n - i.toNat) (c - i.toNat)) :: fs) H rest Q) : TriX md cx ops fs H (⟨some d, .slice t x (some y) none none, ty, pos, af, g⟩ :: rest) Q :=
  triL_val _ hok (fun a w ha _ => by
    obtain ⟨p, rfl⟩ := Int.eq_ofNat_of_zero_le h0
    simp only [execOp, ha.eval hx, ha.eval hy, Option.map_some, Option.map_none, Sem.run_bind, Int.toNat_natCast]
    rw [sl_slice (a := p) (b := n) ht hs (.inr ⟨k1, rfl⟩) (.inl ⟨rfl, rfl⟩) (by omega) (by omega)]
    rfl) k
theorem cutA_zero (A : Option Addr) (c s : Nat) : cutA A c 0 s = A := by
  unfold cutA
  split
  · rfl
  · simp [Addr.add]
theorem o_sliceSh {x z : Operand} {t e : TypeId} {A : Option Addr} {n c s : Nat} {k2 : IntKind} {j : Int} (ht : cx.P.underlying t = some (.slice e)) (hs : szB cx.P e = some s) (hok : okS cx.n ops fs d g = true) (hx : ev fs x = some (.slice A n c)) (hz : ev fs z = some (.int k2 j))
    (h1 : 0 ≤ j) (h2 : j ≤ c) (k : TriX md cx ops ((d, .slice A j.toNat c) :: fs) H rest Q) : TriX md cx ops fs H (⟨some d, .slice t x none (some z) none, ty, pos, af, g⟩ :: rest) Q :=
  triL_val _ hok (fun a w ha _ => by
    obtain ⟨q, rfl⟩ := Int.eq_ofNat_of_zero_le h1
    simp only [execOp, ha.eval hx, ha.eval hz, Option.map_some, Option.map_none, Sem.run_bind, Int.toNat_natCast]
    rw [sl_slice (a := 0) (b := q) ht hs (.inl ⟨rfl, rfl⟩) (.inr ⟨k2, rfl⟩) (by omega) (by omega), cutA_zero]
    rfl) k

/-! ### make, append, copy, a slice written out -/
theorem o_make {x y : Operand} {t e : TypeId} {z : Value} {s bytes n : Nat} {kl kc : IntKind} {p q : Int} (ht : cx.P.underlying t = some (.slice e)) (hi : (cx.P.info? e).map (fun i => (i.zero, i.size, i.bytes)) = some (some z, s, bytes)) (hok : okS cx.n ops fs d g = true)
    (hx : ev fs x = some (.int kl p)) (hy : ev fs y = some (.int kc q)) (hp : p = (n : Int)) (hq : q = (n : Int)) (hb : bytes * n ≤ 281474976710656) (hm : n ≤ maxLen)
    (k : ∀ b, TriX false cx ops ((d, .slice (some ⟨b, 0, none⟩) n n) :: fs) (row (.slice (some ⟨b, 0, none⟩) n n) e s n (madeCells z.cells (n * s)).toList :: H) rest Q) : TriX false cx ops fs H (⟨some d, .makeSlice t x y, ty, pos, af, g⟩ :: rest) Q :=
  triL_gen (J := Nat) (fun b => .slice (some ⟨b, 0, none⟩) n n) (fun b => row (.slice (some ⟨b, 0, none⟩) n n) e s n (madeCells z.cells (n * s)).toList :: H) (fun _ => True) (okS_want hok) (fun e he => by cases he; exact okS_lt hok)
    (fun a w ha hw => by
      obtain ⟨i, hi0, hz, hsz, hby⟩ := info_parts hi
      subst hby
      obtain ⟨w', hr, ho, hg⟩ := run_make_full (P := cx.P) w 0 t e i z s ht hi0 hz hsz kl kc n hb hm (Nat.zero_le _)
      subst hp; subst hq
      refine ⟨w.heap.size, w', .inl (by simp [execOp, ha.eval hx, ha.eval hy, hr]), hw.push (Chg.of_grown hg []) _ ho (own_new (fun a h => by cases h; exact Nat.le_refl _)), trivial⟩) (fun b _ => k b)

theorem fill_row1 (v : Value) (z : Array Value) (s : Nat) (hz : z.size = s) (hv : v.cells.size = s) : Instr.fill (fun i => some (i * s, s)) ((Array.range (1 * s)).map (z[· % z.size]!)) [(0, v)] = some v.cells := by
  simp only [Instr.fill, Nat.zero_mul, Nat.zero_add, hv, ne_eq, not_true_eq_false, Array.size_map, Array.size_range, Nat.one_mul, gt_iff_lt, Nat.lt_irrefl, decide_false, Bool.or_self, Bool.false_eq_true, if_false, Option.some.injEq]
  have key : ∀ (l : List Value) (j : Nat) (cs : Array Value), j + l.length = cs.size → ∀ k, ((l.zipIdx j).foldl (fun cs (c, j) => cs.setIfInBounds j c) cs)[k]? = if j ≤ k then l[k - j]? else cs[k]? := by
    intro l
    induction l with
    | nil => intro j cs hj k; simp at hj; simp only [List.zipIdx_nil, List.foldl_nil]; split
             · simp; omega
             · rfl
    | cons c l ih =>
      intro j cs hj k
      simp only [List.zipIdx_cons, List.foldl_cons]
      rw [ih (j + 1) _ (by simp at hj ⊢; omega) k]
      by_cases h1 : j + 1 ≤ k
      · rw [if_pos h1, if_pos (by omega), show k - j = (k - (j + 1)) + 1 by omega]; simp
      · rw [if_neg h1]
        by_cases h2 : j = k
        · subst h2; rw [if_pos (Nat.le_refl _)]; simp at hj; simp [Array.getElem?_setIfInBounds]; omega
        · rw [if_neg (by omega), Array.getElem?_setIfInBounds_ne h2]
  apply Array.ext_getElem?
  intro k
  have := key v.cells.toList 0 ((Array.range s).map (z[· % z.size]!)) (by simp [hv]) k
  simp only [Nat.zero_le, if_true, Nat.sub_zero, Array.getElem?_toList] at this
  rw [← Array.foldl_toList, Array.toList_zipIdx]
  simpa using this

/-- '[]T{x}', as append's last operand makes it. -/
theorem o_lit1 {x : Operand} {t e : TypeId} {v z : Value} {s : Nat} {vs : List Value} (ht : cx.P.underlying t = some (.slice e)) (hi : (cx.P.info? e).map (fun i => (i.zero, i.size)) = some (some z, s)) (hzs : z.cells.size = s) (hok : okS cx.n ops fs d g = true)
    (hx : ev fs x = some v) (hv : v.cells = vs.toArray) (hl : vs.length = s) (hpos : 0 < s) (hsm : s ≤ 16777216)
    (k : ∀ b, TriX false cx ops ((d, .slice (some ⟨b, 0, none⟩) 1 1) :: fs) (row (.slice (some ⟨b, 0, none⟩) 1 1) e s 1 vs :: H) rest Q) : TriX false cx ops fs H (⟨some d, .buildSlice t 1 #[(0, x)], ty, pos, af, g⟩ :: rest) Q :=
  triL_gen (J := Nat) (fun b => .slice (some ⟨b, 0, none⟩) 1 1) (fun b => row (.slice (some ⟨b, 0, none⟩) 1 1) e s 1 vs :: H) (fun _ => True) (okS_want hok) (fun e he => by cases he; exact okS_lt hok)
    (fun a w ha hw => by
      obtain ⟨i, hi0, hz'⟩ := Option.map_eq_some_iff.1 hi
      simp only [Prod.mk.injEq] at hz'
      obtain ⟨hz, hsz⟩ := hz'
      have hf := fill_row1 v z.cells s hzs (by rw [hv]; simpa using hl)
      have hne : ¬ s = 0 := by omega
      have hsm' : ¬ (16777216 < s) := by omega
      refine ⟨w.heap.size, w.alloc (.cells vs.toArray e), .inl ?_, hw.push (Chg.alloc _ _ _) _ ?_ (own_new (fun a h => by cases h; exact Nat.le_refl _)), trivial⟩
      · simp [execOp, ha.eval hx, Instr.buildSlice, run_underlying ht, sizeOf, typeInfo, hi0, hsz, zeroValue, hz, hne, hsm']
        simp only [Nat.one_mul] at hf
        simp [hf, hv, newRow]
      · exact ⟨by simp [hl], .inr ⟨w.heap.size, 1, vs.toArray, rfl, Nat.zero_le _, heap_alloc_new w _, Nat.le_refl _, by decide, by simp [hl], by rw [Nat.one_mul, ← hl]; simp⟩⟩) (fun b _ => k b)

theorem own_form {w : World} {e size n : Nat} {v : Value} {xs : List Value} (h : w.ownsRow 0 e size v n xs) : ∃ A c, v = .slice A n c := by
  rcases h.2 with ⟨rfl, rfl⟩ | ⟨g, cap, cur, rfl, _⟩
  · exact ⟨_, _, rfl⟩
  · exact ⟨_, _, rfl⟩

/-- Nothing is put behind an own row: the row stays, and so does the heap. -/
theorem app_none {P : Program} {w : World} {t ty e : TypeId} {ti : TypeInfo} {s n c : Nat} {A : Option Addr} {xs : List Value} (c2 : Nat) (hi : P.info? e = some ti) (ht : P.underlying t = some (.slice e)) (ho : w.ownsRow 0 e s (.slice A n c) n xs) :
    (Builtin.append_ #[t, t] ty #[.slice A n c, .slice none 0 c2]).run P w = .ok (.slice A n c) w := by
  have hu := run_underlying (w := w) ht
  rcases ho.2 with ⟨h, -⟩ | ⟨g, cap, cur, h, _, _, hle, _⟩ <;> cases h
  · simp [Builtin.append_, Builtin.firstCells, Builtin.lenOf, sizeOf, typeInfo, hu, hi]
  · simp [Builtin.append_, Builtin.firstCells, Builtin.lenOf, sizeOf, typeInfo, storeCells, hu, hi, hle]

/-- 'append(x, y...)', x the call's own. -/
theorem o_append {x y : Operand} {t e : TypeId} {z : Value} {s bytes i n c m c2 : Nat} {A A2 : Option Addr} {xs news : List Value} (ht : cx.P.underlying t = some (.slice e)) (hi : (cx.P.info? e).map (fun i => (i.zero, i.size, i.bytes)) = some (some z, s, bytes)) (hzs : z.cells.size = s) (hpos : 0 < s)
    (hn : Nth H i (row (.slice A n c) e s n xs)) (hok : okS cx.n ops fs d g = true) (hx : ev fs x = some (.slice A n c)) (hy : ev fs y = some (.slice A2 m c2)) (hr : RdS cx H A2 news) (hl : news.length = m * s) (h1 : ∀ u ∈ news, u.oneCell' = true)
    (h63 : n + m ≤ maxLen) (hbytes : (n + m) * bytes ≤ 140737488355328)
    (k : ∀ A' c', TriX false cx ops ((d, .slice A' (n + m) c') :: fs) (setH H i (row (.slice A' (n + m) c') e s (n + m) (xs ++ news))) rest Q) : TriX false cx ops fs H (⟨some d, .call ⟨.builtin .append, #[x, y], #[t, t]⟩, ty, pos, af, g⟩ :: rest) Q :=
  triL_gen (J := Option Addr × Nat) (fun j => .slice j.1 (n + m) j.2) (fun j => setH H i (row (.slice j.1 (n + m) j.2) e s (n + m) (xs ++ news))) (fun _ => True) (okS_want hok) (fun e he => by cases he; exact okS_lt hok)
    (fun a w ha hw => by
      obtain ⟨ti, hi0, hz, hsz, hby⟩ := info_parts hi
      have hown : w.ownsRow 0 e s (.slice A n c) n xs := hw.holds _ hn.mem
      have fin : ∀ v' w', (Builtin.append_ #[t, t] ty #[.slice A n c, .slice A2 m c2]).run cx.P w = .ok v' w' → w'.ownsRow 0 e s v' (n + m) (xs ++ news) → w.grownBy w' (Value.slice A n c).ownBlock → (v'.ownBlock = (Value.slice A n c).ownBlock ∨ v'.ownBlock = some w.heap.size) →
          ∃ j w', ((execOp a.eval ⟨some d, .call ⟨.builtin .append, #[x, y], #[t, t]⟩, ty, pos, af, g⟩).run cx.P w = .ok (.value ((fun j : Option Addr × Nat => .slice j.1 (n + m) j.2) j)) w' ∨ (execOp a.eval ⟨some d, .call ⟨.builtin .append, #[x, y], #[t, t]⟩, ty, pos, af, g⟩).run cx.P w = .ok .skip w' ∧ (fun j : Option Addr × Nat => Value.slice j.1 (n + m) j.2) j = undef) ∧
            Sat cx (setH H i (row (.slice j.1 (n + m) j.2) e s (n + m) (xs ++ news))) w' ∧ True := by
        intro v' w' hrun ho hg hb
        obtain ⟨A', c', rfl⟩ := own_form ho
        refine ⟨(A', c'), w', .inl (run_call_builtin (xs := [x, y]) ha (vs := [.slice A n c, .slice A2 m c2]) (by simp [evs, hx, hy]) (by simp [builtin, hrun])), ?_, trivial⟩
        refine hw.change hn _ ho hg.os hg.tape hg.output hg.size (fun k hk hf => hg.block k hk (fun e => hf e.symm)) (fun k hk => ?_)
        rcases hb with hb | hb
        · left; show (Value.slice A n c).ownBlock = some k; rw [← hb]; exact hk
        · right; have hk' : (Value.slice A' (n + m) c').ownBlock = some k := hk
          rw [hb] at hk'; cases hk'; exact Nat.le_refl _
      cases A2 with
      | none =>
        have hm0 : news = [] := by
          cases news with
          | nil => rfl
          | cons u r => obtain ⟨a0, h, _⟩ := hr w hw 0 u (by simp); cases h
        subst hm0
        have hm : m = 0 := by
          have : 0 = m * s := by simpa using hl
          rcases Nat.mul_eq_zero.1 this.symm with h | h <;> omega
        subst hm
        exact fin _ w (app_none c2 hi0 ht hown) (by simpa using hown) (World.grownBy.refl w _) (.inl rfl)
      | some a2 =>
        obtain ⟨v', w', hrun, ho, hg, _, hb⟩ := run_append_own_at (P := cx.P) w 0 t ty e ti z s bytes ht hi0 hz hsz hby hzs hpos _ n xs hown a2 m c2 news hl (fun j u hu => by obtain ⟨a1, h1, h2⟩ := hr w hw j u hu; cases h1; exact h2) h1 h63 hbytes (Nat.zero_le _)
        exact fin v' w' hrun ho hg hb) (fun j _ => k j.1 j.2)
end ops
end Go.WK
