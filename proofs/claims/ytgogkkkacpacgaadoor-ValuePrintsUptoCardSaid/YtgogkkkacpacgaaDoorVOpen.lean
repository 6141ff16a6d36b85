/- Arguments that are rows of values, and texts: what they are in memory. Plain lemmas over any program. -/
import Derived.Test.YtgogkkkacpacgaaDoorWk7
import Derived.Test.YtgogkkkacpacgaaDoorKeys1
import Derived.Deep.Slices
namespace Go.WK
open Go.RowKit Go.ChangeShapes Go.WideShapes Go.ChangeAt Go.ChangeMaps

theorem B_eta (s : ByteArray) : B s.data.toList = s := by cases s; rfl
instance : Inhabited Val := ⟨Val.zero⟩

theorem rd_vals {w : World} {a : Addr} (l : List Val) (h : ∀ i, i < l.length → ∀ r u, (l.getD i Val.zero).cs[r]? = some u → w.cell? (a.add (i * 3 + r)) = some u) : Rd w (some a) (valsV l) := fun j u hu => by
  have hj : j < (valsV l).length := (List.getElem?_eq_some_iff.1 hu).1
  rw [valsV_length] at hj
  have h1 := valsV_at l (j / 3) (by omega)
  have h2 : (l.getD (j / 3) Val.zero).cs[j % 3]? = some u := by
    rw [← h1, List.getElem?_take_of_lt (by omega), List.getElem?_drop, show j / 3 * 3 + j % 3 = j by omega]
    exact hu
  have h3 := h (j / 3) (by omega) (j % 3) u h2
  rw [show j / 3 * 3 + j % 3 = j by omega] at h3
  exact ⟨a, rfl, h3⟩

section
variable {H : Type} {enc : TypeId × Value → H} {P : Program}

theorem weightsAll_mem {e : TypeId} : ∀ {ds : List (DataW H)} {d : DataW H}, d ∈ ds → ∀ n ∈ d.weights P e, n ∈ DataW.weightsAll P e ds
  | d0 :: ds, d, h, n, hn => by
    simp only [DataW.weightsAll, List.mem_append]
    rcases List.mem_cons.1 h with rfl | h
    · exact .inl hn
    · exact .inr (weightsAll_mem h n hn)

/-- A value, as data. -/
def Val.data (v : Val) : DataW H := .agg [.lit (.int .i64 v.k), .lit (.int .i64 v.n), .lit (.string v.s)]

theorem open_val {w : World} {e t0 t1 t2 : TypeId} {n0 n1 n2 : String} {g0 g1 g2 : String} {p0 p1 p2 : String} {b0 b1 b2 : Nat} {sp : Nat → Bool} {fuel : Nat} {cs : List Value} {x : DataW H × List MemPlace} {base : Nat}
    (he : P.underlying e = some (.struct #[⟨n0, t0, 0, false, g0, p0, b0⟩, ⟨n1, t1, 1, false, g1, p1, b1⟩, ⟨n2, t2, 2, false, g2, p2, b2⟩]))
    (h0 : P.underlying t0 = some (.int .i64)) (h1 : P.underlying t1 = some (.int .i64)) (h2 : P.underlying t2 = some .string) (c0 : P.cellsOf t0 = 1) (c1 : P.cellsOf t1 = 1) (c2 : P.cellsOf t2 = 1) (hc : P.cellsOf e = 3)
    (h : DataW.trod enc P w base sp true fuel e cs = some x) : ∃ v : Val, cs = v.cs ∧ x.1 = v.data ∧ v.ok := by
  obtain ⟨xs, n, rfl, rfl, hl, hxs, hf⟩ := DataW.trod_struct he h
  rw [hc] at hl
  match cs, hl with
  | [u0, u1, u2], _ =>
    match xs, hxs with
    | [y0, y1, y2], _ =>
      have f0 : DataW.trod enc P w base sp true n t0 (([u0, u1, u2].drop 0).take (P.cellsOf t0)) = some y0 := hf 0 _ rfl
      have f1 : DataW.trod enc P w base sp true n t1 (([u0, u1, u2].drop 1).take (P.cellsOf t1)) = some y1 := hf 1 _ rfl
      have f2 : DataW.trod enc P w base sp true n t2 (([u0, u1, u2].drop 2).take (P.cellsOf t2)) = some y2 := hf 2 _ rfl
      rw [c0] at f0
      rw [c1] at f1
      rw [c2] at f2
      obtain ⟨k, ek, rfl, wk⟩ := DataW.trod_int h0 f0
      obtain ⟨m, em, rfl, wm⟩ := DataW.trod_int h1 f1
      obtain ⟨s, es, rfl, _⟩ := DataW.trod_string h2 f2
      simp at ek em es
      subst ek em es
      exact ⟨⟨k, m, s.data.toList⟩, by simp [Val.cs, B_eta], rfl, i64_of_wf wk, i64_of_wf wm⟩

/-- An argument of type []api.Value. -/
theorem open_vals {w : World} {r : Reach} {bb : Nat} {t e t0 t1 t2 : TypeId} {n0 n1 n2 : String} {g0 g1 g2 : String} {p0 p1 p2 : String} {b0 b1 b2 : Nat} {v : Value} {d : DataW H} {p : List MemPlace} {ts : List TypeId} {ds : List (DataW H)} {j : Nat} (ht : P.underlying t = some (.slice e))
    (he : P.underlying e = some (.struct #[⟨n0, t0, 0, false, g0, p0, b0⟩, ⟨n1, t1, 1, false, g1, p1, b1⟩, ⟨n2, t2, 2, false, g2, p2, b2⟩]))
    (h0 : P.underlying t0 = some (.int .i64)) (h1 : P.underlying t1 = some (.int .i64)) (h2 : P.underlying t2 = some .string) (c0 : P.cellsOf t0 = 1) (c1 : P.cellsOf t1 = 1) (c2 : P.cellsOf t2 = 1) (hc : P.cellsOf e = 3) (hby : P.bytesOf e = 32)
    (hsz : (DataW.weightsEach P ts ds).all (· ≤ reachBytes) = true) (htj : ts[j]? = some t) (hdj : ds[j]? = some d) (hv : Value.okWide P w r bb t v) (h : DataW.Trod enc P w 0 (fun _ => true) true t v d p) :
    ∃ (A : Option Addr) (n c : Nat) (l : List Val), v = .slice A n c ∧ n ≤ c ∧ Rd w A (valsV l) ∧ l.length = n ∧ c ≤ 4398046510976 ∧ (∀ v ∈ l, v.ok) ∧ (∀ v ∈ l, v.s.length ≤ 140737488351232) := by
  obtain ⟨a0, len, cap, rfl⟩ := okWide_slice ht hv
  obtain ⟨fuel, hf⟩ := h
  rcases Deep.open_slice ht hf with ⟨hcs, hx⟩ | ⟨a, len', cap', m, n, D, Pl, hcs, _, hl, hm, hmm, hx, hel⟩
  · simp [Value.cells] at hcs
    obtain ⟨rfl, rfl, rfl⟩ := hcs
    exact ⟨none, 0, 0, [], rfl, Nat.le_refl _, Rd.nil _ _, rfl, by omega, by simp, by simp⟩
  · simp [Value.cells] at hcs
    obtain ⟨rfl, rfl, rfl⟩ := hcs
    simp only [if_true] at hmm
    subst m
    simp only [Prod.mk.injEq] at hx
    obtain ⟨rfl, _⟩ := hx
    have hall := hsz
    have hw := sized_slice hsz (j := j) (t := t) (e := e) htj hdj ht
    rw [hby] at hw
    simp only [List.length_map, List.length_range, reachBytes] at hw
    obtain ⟨V, hV⟩ := Deep.choose_lt (α := Val) (n := cap) (p := fun i u => w.cells? 0 (a.add (i * 3)) 3 = some u.cs ∧ D i = u.data ∧ u.ok) (fun i hi => by
      obtain ⟨cs', k1, k2⟩ := hel i hi
      rw [hc] at k1
      obtain ⟨u, rfl, k3, k4⟩ := open_val he h0 h1 h2 c0 c1 c2 hc k2
      exact ⟨u, k1, k3, k4⟩)
    have hget : ∀ i, i < len → ((List.range len).map V).getD i Val.zero = V i := fun i hi => by simp [List.getD, hi]
    refine ⟨some a, len, cap, (List.range len).map V, rfl, hl, rd_vals _ (fun i hi r u hu => ?_), by simp, by omega, fun v hv => ?_, fun v hv => ?_⟩
    · have hi' : i < len := by simpa using hi
      rw [hget i hi'] at hu
      obtain ⟨_, hlen, hcell⟩ := World.cells?_some (hV i (by omega)).1
      have hr : r < 3 := by rw [← hlen]; exact (List.getElem?_eq_some_iff.1 hu).1
      have := hcell r hr
      rw [hu, add_add] at this
      exact this
    · obtain ⟨i, hi, rfl⟩ := List.mem_map.1 hv
      exact (hV i (by have := List.mem_range.1 hi; omega)).2.2
    · obtain ⟨i, hi, rfl⟩ := List.mem_map.1 hv
      have hi' := List.mem_range.1 hi
      have hd := (hV i (by omega)).2.1
      have h9 := List.all_eq_true.1 hall _ (DataW.weights_mem_each htj hdj (V i).s.length (by
        simp only [DataW.weights, ht]
        refine List.mem_cons_of_mem _ (List.mem_append_left _ (weightsAll_mem (d := D i) (List.mem_map.2 ⟨i, hi, rfl⟩) _ ?_))
        rw [hd]
        simp [Val.data, DataW.weights, he, DataW.weightsEach]))
      exact of_decide_eq_true h9
end
end Go.WK
