/- errors.As at a target of type *Fault, errors.Is at the Fault's own code: what each gives (after the kit's worked example of errors.As). -/
import Derived.Test.YtdcdpegomncomaaGreatDoorProg
import Derived.Test.YtdcdpegomncomaaGreatDoorWk9
import Derived.KernelRfl
import Derived.WalkKit
import Derived.LaidEql
import Derived.Stop.Asserts
import Derived.RowKitTokens
namespace Go.Proofs.YtdcdpegomncomaaGreatDoor
open Go.RowKit Go.Extern.Stop Go.Stop Go.Extern Go.WK

theorem ty_errType : Tryz.prog.globalNamed "errors.errorType" = some 0 := by kernel_rfl
/-! ### The model's entries for internal/reflectlite, at this program's types -/
theorem valueOfP (t : Addr) (w : World) : (ReflectliteValue.unpack (.iface 53 (.pointer (some t)))).run Tryz.prog w = .ok (.agg #[.pointer (some ⟨10, 53, none⟩), .pointer (some ⟨w.heap.size, 0, none⟩), .int .u64 150]) (w.alloc (.cells #[.pointer (some t)] 53)) := by kernel_rfl
theorem typeP (a : Addr) (w : World) : (ReflectliteValue.methodAny (ReflectliteValue.valueError "reflectlite.Value.Type" 0) (fun t _ _ _ => ReflectliteType.toType t) #[.agg #[.pointer (some ⟨10, 53, none⟩), .pointer (some a), .int .u64 150]]).run Tryz.prog w = .ok (.iface 95 (.agg #[.pointer (some ⟨10, 53, none⟩)])) w := by kernel_rfl
theorem methodKind (h : Value) (w : World) : (Go.method 285 95 (.agg #[h]) "Kind").run Tryz.prog w = .ok (104, h) w := by kernel_rfl
theorem kindP (w : World) : ((ReflectliteType.abiMethod fun t => Functor.map (fun a : Nat => Value.int IntKind.u8 (a : Int)) (Rtype.kind t)) #[.pointer (some ⟨10, 53, none⟩)]).run Tryz.prog w = .ok (.int .u8 22) w := by kernel_rfl
theorem kindE (w : World) : ((ReflectliteType.abiMethod fun t => Functor.map (fun a : Nat => Value.int IntKind.u8 (a : Int)) (Rtype.kind t)) #[.pointer (some ⟨10, 29, none⟩)]).run Tryz.prog w = .ok (.int .u8 25) w := by kernel_rfl
theorem rlm (z : Sem Value) (f : TypeId → Addr → Nat → Nat → Sem Value) (v : Value) :
    ReflectliteValue.method z f #[v] = (do match ← ReflectliteValue.parts v with | none => z | some (t, a, fl) => f t a fl (fl % 32)) := rfl
theorem partsP (a : Addr) (w : World) : (ReflectliteValue.parts (.agg #[.pointer (some ⟨10, 53, none⟩), .pointer (some a), .int .u64 150])).run Tryz.prog w = .ok (some (53, a, 150)) w := by kernel_rfl
theorem isNilP (a p : Addr) (W : World) (ha : W.cell? a = some (.pointer (some p))) :
    (ReflectliteValue.method (ReflectliteValue.valueError "reflectlite.Value.IsNil" 0) ReflectliteValue.isNil #[.agg #[.pointer (some ⟨10, 53, none⟩), .pointer (some a), .int .u64 150]]).run Tryz.prog W = .ok (.bool false) W := by
  rw [rlm]
  simp only [Sem.run_bind, partsP, Result.andThen]
  simp [ReflectliteValue.isNil, loadVar, isAgg, underlying, Tryz.underlying53, ha, Result.andThen]
theorem methodElem (h : Value) (w : World) : (Go.method 285 95 (.agg #[h]) "Elem").run Tryz.prog w = .ok (117, .agg #[h]) w := by kernel_rfl
theorem methodImplements (h : Value) (w : World) : (Go.method 285 95 (.agg #[h]) "Implements").run Tryz.prog w = .ok (118, .agg #[h]) w := by kernel_rfl
theorem methodAssignableTo (h : Value) (w : World) : (Go.method 285 95 (.agg #[h]) "AssignableTo").run Tryz.prog w = .ok (115, .agg #[h]) w := by kernel_rfl
theorem methodComparable (h : Value) (w : World) : (Go.method 285 95 (.agg #[h]) "Comparable").run Tryz.prog w = .ok (116, .agg #[h]) w := by kernel_rfl
theorem methodUnwrap (v : Value) (w : World) : (Go.method 285 29 v "Unwrap").run Tryz.prog w = .ok (109, v) w := by kernel_rfl
theorem elemP (w : World) : (ReflectliteType.method ReflectliteType.elem #[.agg #[.pointer (some ⟨10, 53, none⟩)]]).run Tryz.prog w = .ok (.iface 95 (.agg #[.pointer (some ⟨10, 29, none⟩)])) w := by kernel_rfl
theorem implementsE (w : World) : (ReflectliteType.relation "Implements" ReflectliteType.implements_ #[.agg #[.pointer (some ⟨10, 29, none⟩)], .iface 95 (.agg #[.pointer (some ⟨10, 24, none⟩)])]).run Tryz.prog w = .ok (.bool true) w := by kernel_rfl
theorem typeOfE (v : Value) (w : World) : (ReflectliteType.typeOf #[.iface 29 v]).run Tryz.prog w = .ok (.iface 95 (.agg #[.pointer (some ⟨10, 29, none⟩)])) w := by kernel_rfl
theorem typeOfC (v : Value) (w : World) : (ReflectliteType.typeOf #[.iface 27 v]).run Tryz.prog w = .ok (.iface 95 (.agg #[.pointer (some ⟨10, 27, none⟩)])) w := by kernel_rfl
theorem comparableC (w : World) : (ReflectliteType.method (fun t => do Rtype.noPackHeld "Comparable" t; Functor.map (fun a : Go.TypeInfo => Value.bool a.comparable) (Go.typeInfo t)) #[.agg #[.pointer (some ⟨10, 27, none⟩)]]).run Tryz.prog w = .ok (.bool true) w := by kernel_rfl
theorem assignableE (w : World) : (ReflectliteType.relation "AssignableTo" ReflectliteType.assignableTo #[.agg #[.pointer (some ⟨10, 29, none⟩)], .iface 95 (.agg #[.pointer (some ⟨10, 29, none⟩)])]).run Tryz.prog w = .ok (.bool true) w := by kernel_rfl
theorem valueOfE (c p : Int) (w : World) : (ReflectliteValue.unpack (.iface 29 (.agg #[.int .i64 c, .int .i64 p]))).run Tryz.prog w = .ok (.agg #[.pointer (some ⟨10, 29, none⟩), .pointer (some ⟨w.heap.size, 0, none⟩), .int .u64 153]) (w.alloc (.cells #[.int .i64 c, .int .i64 p] 29)) := by kernel_rfl
theorem elemOfP (w : World) : (Rtype.elem? 53).run Tryz.prog w = .ok (some 29) w := by kernel_rfl
theorem mkE (a : Addr) (w : World) : (ReflectliteValue.mk 29 a ReflectliteValue.flagAddr).run Tryz.prog w = .ok (.agg #[.pointer (some ⟨10, 29, none⟩), .pointer (some a), .int .u64 409]) w := by kernel_rfl
theorem elemVP (a p : Addr) (W : World) (ha : W.cell? a = some (.pointer (some p))) :
    (ReflectliteValue.method (ReflectliteValue.valueError "reflectlite.Value.Elem" 0) ReflectliteValue.elem #[.agg #[.pointer (some ⟨10, 53, none⟩), .pointer (some a), .int .u64 150]]).run Tryz.prog W = .ok (.agg #[.pointer (some ⟨10, 29, none⟩), .pointer (some p), .int .u64 409]) W := by
  rw [rlm]
  simp only [Sem.run_bind, partsP, Result.andThen]
  simp [ReflectliteValue.elem, loadVar, isAgg, underlying, Tryz.underlying53, ha, Result.andThen, elemOfP, mkE]
theorem partsEa (a : Addr) (w : World) : (ReflectliteValue.parts (.agg #[.pointer (some ⟨10, 29, none⟩), .pointer (some a), .int .u64 409])).run Tryz.prog w = .ok (some (29, a, 409)) w := by kernel_rfl
theorem partsE (a : Addr) (w : World) : (ReflectliteValue.parts (.agg #[.pointer (some ⟨10, 29, none⟩), .pointer (some a), .int .u64 153])).run Tryz.prog w = .ok (some (29, a, 153)) w := by kernel_rfl
theorem directE (w : World) : (Rtype.directlyAssignable 29 29).run Tryz.prog w = .ok true w := by kernel_rfl
theorem aggE : aggB Tryz.prog 29 = some true := by kernel_rfl
theorem szE : szB Tryz.prog 29 = some 2 := by kernel_rfl
theorem loadE (k : Nat) (c p : Int) (W : World) (hk : W.heap[k]? = some (.cells #[.int .i64 c, .int .i64 p] 29 (0, 0))) : (loadVar 29 ⟨k, 0, none⟩).run Tryz.prog W = .ok (.agg #[.int .i64 c, .int .i64 p]) W := by
  have h := run_loadCells_list (P := Tryz.prog) W ⟨k, 0, none⟩ [.int .i64 c, .int .i64 p] (cells_box (cs := [.int .i64 c, .int .i64 p]) (o := 0) (z := 2) hk rfl)
  simp only [List.length_cons, List.length_nil] at h
  simp [loadVar, run_isAggB aggE, run_sizeB szE, h]
theorem storeE (b : Nat) (c p : Int) (x y : Value) (W : World) (hb : W.heap[b]? = some (.cells #[x, y] 29 (0, 0))) : (storeVar 29 ⟨b, 0, none⟩ (.agg #[.int .i64 c, .int .i64 p])).run Tryz.prog W = .ok () (W.setRow b #[.int .i64 c, .int .i64 p]) := by
  have hst := run_storeCells_at Tryz.prog b 0 29 [.int .i64 c, .int .i64 p] 0 #[x, y] W hb (by simp) (by intro u hu; simp at hu; rcases hu with rfl | rfl <;> rfl)
  simp at hst
  simp [storeVar, run_sizeB szE, Value.cells, hst]
/-- (Value).Set: the Fault at 'b' gets what the Value's own variable 'k' holds. -/
theorem setE (b k : Nat) (c p : Int) (x y : Value) (W : World) (hk : W.heap[k]? = some (.cells #[.int .i64 c, .int .i64 p] 29 (0, 0))) (hb : W.heap[b]? = some (.cells #[x, y] 29 (0, 0))) :
    (ReflectliteValue.set #[.agg #[.pointer (some ⟨10, 29, none⟩), .pointer (some ⟨b, 0, none⟩), .int .u64 409], .agg #[.pointer (some ⟨10, 29, none⟩), .pointer (some ⟨k, 0, none⟩), .int .u64 153]]).run Tryz.prog W = .ok (.tuple #[]) (W.setRow b #[.int .i64 c, .int .i64 p]) := by
  show (ReflectliteValue.parts (.agg #[.pointer (some ⟨10, 29, none⟩), .pointer (some ⟨b, 0, none⟩), .int .u64 409]) >>= fun q => ReflectliteValue.parts (.agg #[.pointer (some ⟨10, 29, none⟩), .pointer (some ⟨k, 0, none⟩), .int .u64 153]) >>= fun q2 => _).run _ _ = _
  simp only [Sem.run_bind, partsEa, partsE, Result.andThen]
  simp [ReflectliteValue.flagAddr, loadE k c p W hk, storeE b c p x y W hb, Result.andThen, directE]
theorem heap_alloc_lt {w : World} {o : Obj} {k : Nat} (h : k < w.heap.size) : (w.alloc o).heap[k]? = w.heap[k]? := by
  show (w.heap.push o)[k]? = w.heap[k]?
  rw [Array.getElem?_push, if_neg (Nat.ne_of_lt h)]
theorem heap_alloc_at (w : World) (o : Obj) : (w.alloc o).heap[w.heap.size]? = some o := by
  show (w.heap.push o)[w.heap.size]? = some o
  rw [Array.getElem?_push, if_pos rfl]

set_option maxRecDepth 100000 in
set_option maxHeartbeats 4000000 in
theorem as_hit (c p : Int) (b : Nat) (x y : Value) (w : World) (hg : w.cell? ⟨0, 0, none⟩ = some (.iface 95 (.agg #[.pointer (some ⟨10, 24, none⟩)]))) (hb : w.heap[b]? = some (.cells #[x, y] 29 (0, 0))) :
    Calls Tryz.prog 22 #[.iface 29 (.agg #[.int .i64 c, .int .i64 p]), .iface 53 (.pointer (some ⟨b, 0, none⟩))] w fun ev w' => ev = .returned (.bool true) ∧ w' = ((((w.alloc (.cells #[.pointer (some ⟨b, 0, none⟩)] 53)).alloc (.cells #[.pointer (some ⟨10, 53, none⟩), .pointer (some ⟨w.heap.size, 0, none⟩), .int .u64 150] 75)).alloc (.cells #[.pointer (some ⟨10, 53, none⟩), .pointer (some ⟨w.heap.size, 0, none⟩), .int .u64 150] 75)).alloc (.cells #[.int .i64 c, .int .i64 p] 29)).setRow b #[.int .i64 c, .int .i64 p] := by
  have hVO := @run_callFunc_extern Tryz.prog 39 _ (fun args => ReflectliteValue.unpack (args.getD 0 (.tuple #[]))) Tryz.func39 (by kernel_rfl) (by kernel_rfl) (by kernel_rfl) (by kernel_rfl)
  have hTy := @run_callFunc_extern Tryz.prog 40 _ (ReflectliteValue.methodAny (ReflectliteValue.valueError "reflectlite.Value.Type" 0) (fun t _ _ _ => ReflectliteType.toType t)) Tryz.func40 (by kernel_rfl) (by kernel_rfl) (by kernel_rfl) (by kernel_rfl)
  have hNil := @run_callFunc_extern Tryz.prog 41 _ (ReflectliteValue.method (ReflectliteValue.valueError "reflectlite.Value.IsNil" 0) ReflectliteValue.isNil) Tryz.func41 (by kernel_rfl) (by kernel_rfl) (by kernel_rfl) (by kernel_rfl)
  have hK := @run_callFunc_extern Tryz.prog 104 _ (ReflectliteType.abiMethod fun t => do pure (.int .u8 (← Rtype.kind t))) Tryz.func104 (by kernel_rfl) (by kernel_rfl) (by kernel_rfl) (by kernel_rfl)
  have hrE := @run_callFunc_extern Tryz.prog 117 _ (ReflectliteType.method ReflectliteType.elem) Tryz.func117 (by kernel_rfl) (by kernel_rfl) (by kernel_rfl) (by kernel_rfl)
  have hrI := @run_callFunc_extern Tryz.prog 118 _ (ReflectliteType.relation "Implements" ReflectliteType.implements_) Tryz.func118 (by kernel_rfl) (by kernel_rfl) (by kernel_rfl) (by kernel_rfl)
  have hTO := @run_callFunc_extern Tryz.prog 43 _ ReflectliteType.typeOf Tryz.func43 (by kernel_rfl) (by kernel_rfl) (by kernel_rfl) (by kernel_rfl)
  have hrA := @run_callFunc_extern Tryz.prog 115 _ (ReflectliteType.relation "AssignableTo" ReflectliteType.assignableTo) Tryz.func115 (by kernel_rfl) (by kernel_rfl) (by kernel_rfl) (by kernel_rfl)
  have hEl := @run_callFunc_extern Tryz.prog 56 _ (ReflectliteValue.method (ReflectliteValue.valueError "reflectlite.Value.Elem" 0) ReflectliteValue.elem) Tryz.func56 (by kernel_rfl) (by kernel_rfl) (by kernel_rfl) (by kernel_rfl)
  have hSe := @run_callFunc_extern Tryz.prog 57 _ ReflectliteValue.set Tryz.func57 (by kernel_rfl) (by kernel_rfl) (by kernel_rfl) (by kernel_rfl)
  have q1 := typeOfE
  have q2 := methodAssignableTo
  have q3 := assignableE
  have q4 := valueOfE
  have q5 := valueOfP
  have q6 := typeP
  have q7 := methodKind
  have q8 := methodElem
  have q9 := methodImplements
  have q10 := kindP
  have q11 := kindE
  have q12 := elemP
  have q13 := implementsE
  have hlt : 0 < w.heap.size := World.block_lt_of_cell? _ _ hg
  have hbl : b < w.heap.size := by
    rcases Nat.lt_or_ge b w.heap.size with h | h
    · exact h
    · rw [Array.getElem?_eq_none h] at hb; cases hb
  have n8 := isNilP ⟨w.heap.size, 0, none⟩ ⟨b, 0, none⟩ ((w.alloc (.cells #[.pointer (some ⟨b, 0, none⟩)] 53)).alloc (.cells #[.pointer (some ⟨10, 53, none⟩), .pointer (some ⟨w.heap.size, 0, none⟩), .int .u64 150] 75)) (by simp)
  have hg2 : ((w.alloc (.cells #[.pointer (some ⟨b, 0, none⟩)] 53)).alloc (.cells #[.pointer (some ⟨10, 53, none⟩), .pointer (some ⟨w.heap.size, 0, none⟩), .int .u64 150] 75)).cell? ⟨0, 0, none⟩ = some (.iface 95 (.agg #[.pointer (some ⟨10, 24, none⟩)])) := by
    rw [World.cell?_alloc_lt _ _ ⟨0, 0, none⟩ (by simp), World.cell?_alloc_lt _ _ ⟨0, 0, none⟩ hlt]; exact hg
  have el := elemVP ⟨w.heap.size, 0, none⟩ ⟨b, 0, none⟩ (((w.alloc (.cells #[.pointer (some ⟨b, 0, none⟩)] 53)).alloc (.cells #[.pointer (some ⟨10, 53, none⟩), .pointer (some ⟨w.heap.size, 0, none⟩), .int .u64 150] 75)).alloc (.cells #[.pointer (some ⟨10, 53, none⟩), .pointer (some ⟨w.heap.size, 0, none⟩), .int .u64 150] 75)) (by rw [World.cell?_alloc_lt _ _ ⟨w.heap.size, 0, none⟩ (by simp; omega)]; simp)
  have st := setE b (w.heap.size + 1 + 1 + 1) c p x y ((((w.alloc (.cells #[.pointer (some ⟨b, 0, none⟩)] 53)).alloc (.cells #[.pointer (some ⟨10, 53, none⟩), .pointer (some ⟨w.heap.size, 0, none⟩), .int .u64 150] 75)).alloc (.cells #[.pointer (some ⟨10, 53, none⟩), .pointer (some ⟨w.heap.size, 0, none⟩), .int .u64 150] 75)).alloc (.cells #[.int .i64 c, .int .i64 p] 29))
    (by have := heap_alloc_at (((w.alloc (.cells #[.pointer (some ⟨b, 0, none⟩)] 53)).alloc (.cells #[.pointer (some ⟨10, 53, none⟩), .pointer (some ⟨w.heap.size, 0, none⟩), .int .u64 150] 75)).alloc (.cells #[.pointer (some ⟨10, 53, none⟩), .pointer (some ⟨w.heap.size, 0, none⟩), .int .u64 150] 75)) (.cells #[.int .i64 c, .int .i64 p] 29); simpa using this)
    (by rw [heap_alloc_lt (by simp; omega), heap_alloc_lt (by simp; omega), heap_alloc_lt (by simp; omega), heap_alloc_lt hbl]; exact hb)
  go_enter Tryz.func22, Tryz.ntmps22
  go_wp2
  refine wp_loop_rounds 1 ?_
  rw [rounds_succ]
  go_wp2
  go_ret
  exact ⟨rfl, rfl⟩

theorem noIs (v : Value) (xT : TypeId) (w : World) : (Instr.typeAssert (.iface 29 v) xT 107 true).run Tryz.prog w = .ok (.tuple #[.nilIface, .bool false]) w := run_typeAssert_lacksB Tryz.underlying107 (by kernel_rfl) (by kernel_rfl) v xT w
theorem hasUn (v : Value) (xT : TypeId) (w : World) : (Instr.typeAssert (.iface 29 v) xT 102 true).run Tryz.prog w = .ok (.tuple #[.iface 29 v, .bool true]) w := run_typeAssert_hasB Tryz.underlying102 (by kernel_rfl) v xT w
theorem eqFC (v u : Value) (w : World) : (binOp .eql 24 (.iface 29 v) (.iface 27 u)).run Tryz.prog w = .ok (.bool false) w := run_eql_iface_types 29 27 v u Tryz.underlying24 (by decide) w
theorem eqCC (c : Int) (w : World) : (binOp .eql 24 (.iface 27 (.int .i64 c)) (.iface 27 (.int .i64 c))).run Tryz.prog w = .ok (.bool true) w := by
  simp only [binOp]
  have hc : Tryz.t27.comparable = true := by kernel_rfl
  have h : ∀ d : Nat, (Op.equalIn (d + 1 + 1) 24 (.iface 27 (.int .i64 c)) (.iface 27 (.int .i64 c))).run Tryz.prog w = .ok true w := fun d => by simp [Op.equalIn, run_underlying Tryz.underlying24, run_underlying Tryz.underlying27, hc]
  simp [Op.equal, Op.maxDepth, h 9998]
set_option maxRecDepth 100000 in
set_option maxHeartbeats 4000000 in
theorem is_code (c p : Int) (w : World) : Calls Tryz.prog 23 #[.iface 29 (.agg #[.int .i64 c, .int .i64 p]), .iface 27 (.int .i64 c)] w fun ev w' => ev = .returned (.bool true) ∧ w' = w.alloc (.cells #[.int .i64 c, .int .i64 p] 29) := by
  have hTO := @run_callFunc_extern Tryz.prog 43 _ ReflectliteType.typeOf Tryz.func43 (by kernel_rfl) (by kernel_rfl) (by kernel_rfl) (by kernel_rfl)
  have hrC := @run_callFunc_extern Tryz.prog 116 _ (ReflectliteType.method (fun t => do Rtype.noPackHeld "Comparable" t; pure (.bool (← Go.typeInfo t).comparable))) Tryz.func116 (by kernel_rfl) (by kernel_rfl) (by kernel_rfl) (by kernel_rfl)
  have q1 := typeOfC
  have q2 := methodComparable
  have q3 := comparableC
  have q4 := noIs
  have q5 := hasUn
  have q6 := eqFC
  have q7 := eqCC
  have q8 := methodUnwrap
  go_enter Tryz.func23, Tryz.ntmps23
  go_wp2
  refine wp_loop_rounds 2 ?_
  rw [rounds_succ]
  go_wp2
  rw [rounds_succ]
  go_wp2
  go_ret
  exact ⟨rfl, rfl⟩
end Go.Proofs.YtdcdpegomncomaaGreatDoor
