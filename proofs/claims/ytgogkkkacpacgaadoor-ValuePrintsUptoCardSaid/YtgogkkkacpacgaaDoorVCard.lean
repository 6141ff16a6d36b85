/- From a law's walk to a statement that lists variables: the world's shape kept beside the list. Plain lemmas over any program. -/
import Derived.Test.YtgogkkkacpacgaaDoorWk7
import Derived.Test.YtgogkkkacpacgaaDoorVOpen
import Derived.LaidMore
import Derived.Lay
import Derived.HandedShaped
import Derived.Stop.LaidErr
import Derived.Lib.LaidTab
namespace Go.WK
open Go.RowKit Go.ChangeShapes Go.WideShapes Go.ChangeAt Go.ChangeMaps
variable {H : Type} {enc : TypeId × Value → H}

theorem returns_laid {a : Assume} {C : Checked} {os : Os} {f : FuncId} {fn : Func} {s : ChangeSpec} {conds : List PathCond} {apart fresh handsOn again : Bool} {X : World → Array Value → Prop}
    (hX : ∀ (w w' : World) (args : Array Value), w.heap = w'.heap → X w args → X w' args)
    (own : ownKnob C.prog.godebug = none) (started : os.Started) (noInit : C.prog.inits.idxOf? f = none) (hfn : C.prog.funcs[f]? = some fn)
    (witness : ∃ (w : World) (tape : Tape) (i : Input), w.os = os ∧ (w.forCall tape i).Shaped C.prog ∧ i.vars = [] ∧ Input.okWide C.prog (w.forCall tape i) .any w.heap.size f i ∧
      ((s.pre enc C.prog fn conds apart (w.forCall tape i).memory i.args ∧ X (w.forCall tape i).memory i.args) ∧ sizedMet enc C.prog fn (OpenSpec.ofChange s) apart (w.forCall tape i).memory i.args) ∧ a.holds C.prog (lone (Frame.enter C.prog f i.args .normal) [] (w.forCall tape i)))
    (contract : ∀ (W : World) (base : Nat) (args : Array Value) (ds gs : List (DataW H)) (before : List MemPlace),
      (∀ (j : Nat) t v, fn.params[j]? = some t → args[j]? = some v → Value.okWide C.prog W .any base t v) →
      DataW.Whole enc C.prog fn.params.toList s.vars apart W args.toList ds gs before →
      (DataW.weightsEach C.prog (fn.params.toList ++ s.plain.varTypes C.prog) (ds ++ gs)).all (· ≤ reachBytes) = true → X W args → W.ShapedOpen C.prog →
      Calls C.prog f args W fun e W' => ∃ v, e = .returned v ∧ s.post enc C.prog fn apart fresh handsOn again W args v W') :
    ReturnsInHanded a C os f .any (fun w args => (s.pre enc C.prog fn conds apart w args ∧ X w args) ∧ sizedMet enc C.prog fn (OpenSpec.ofChange s) apart w args) (s.post enc C.prog fn apart fresh handsOn again) := by
  refine returnsInHanded_of_calls own started noInit witness ?_
  intro w tape i _ hsh _ hok hpre _
  obtain ⟨_, _, _, fn', hfn', _, _, _, _, hval⟩ := hok
  have e : fn' = fn := Option.some.inj (hfn'.symm.trans hfn)
  subst e
  obtain ⟨⟨⟨ds, gs, before, hw, hc⟩, hx⟩, hz⟩ := hpre
  have hw' := DataW.Whole.of_heap (w' := w.forCall tape i) (by rfl) hw
  refine (contract (w.forCall tape i) w.heap.size i.args ds gs before hval hw' (hz.weights hw) (hX _ _ _ (by rfl) hx) hsh).mono fun e W' ⟨v, he, hp⟩ => ?_
  subst he
  exact ChangeSpec.post_blind hp
/-- An argument of type api.Value. -/
theorem open_valA {P : Program} {w : World} {r : Reach} {bb : Nat} {e t0 t1 t2 : TypeId} {n0 n1 n2 : String} {g0 g1 g2 : String} {p0 p1 p2 : String} {b0 b1 b2 : Nat} {v : Value} {d : DataW H} {p : List MemPlace} {ts : List TypeId} {ds : List (DataW H)} {j : Nat}
    (he : P.underlying e = some (.struct #[⟨n0, t0, 0, false, g0, p0, b0⟩, ⟨n1, t1, 1, false, g1, p1, b1⟩, ⟨n2, t2, 2, false, g2, p2, b2⟩]))
    (h0 : P.underlying t0 = some (.int .i64)) (h1 : P.underlying t1 = some (.int .i64)) (h2 : P.underlying t2 = some .string) (c0 : P.cellsOf t0 = 1) (c1 : P.cellsOf t1 = 1) (c2 : P.cellsOf t2 = 1) (hc : P.cellsOf e = 3)
    (hsz : (DataW.weightsEach P ts ds).all (· ≤ reachBytes) = true) (htj : ts[j]? = some e) (hdj : ds[j]? = some d) (hv : Value.okWide P w r bb e v) (h : DataW.Trod enc P w 0 (fun _ => true) true e v d p) :
    ∃ u : Val, v = aggV u ∧ d = u.data ∧ u.ok ∧ u.s.length ≤ 140737488351232 := by
  obtain ⟨cs, rfl, _⟩ := okWide_struct he hv
  obtain ⟨fuel, hf⟩ := h
  obtain ⟨u, k1, k2, k3⟩ := open_val he h0 h1 h2 c0 c1 c2 hc hf
  have k1 : cs.toList = u.cs := k1
  have hd : d = u.data := k2
  refine ⟨u, by show Value.agg cs = .agg u.cs.toArray; rw [← k1], hd, k3, ?_⟩
  have h9 := List.all_eq_true.1 hsz _ (DataW.weights_mem_each htj hdj u.s.length (by
    rw [hd]
    simp [Val.data, DataW.weights, he, DataW.weightsEach]))
  exact of_decide_eq_true h9
end Go.WK
