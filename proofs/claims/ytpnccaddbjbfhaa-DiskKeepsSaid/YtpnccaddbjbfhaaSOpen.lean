/- Arguments that are steps on a disk, or rows of bools: what they are in memory. Plain lemmas over any program. -/
import Derived.Test.YtpnccaddbjbfhaaWk7
import Derived.Test.YtpnccaddbjbfhaaDisk4
import Derived.Deep.Slices
import Derived.Deep.Grids
namespace Go.WK
open Go.RowKit Go.ChangeShapes Go.WideShapes Go.ChangeAt Go.ChangeMaps
instance : Inhabited Stp := ⟨Stp.nil⟩
instance : Inhabited Bool := ⟨false⟩

section
variable {H : Type} {enc : TypeId × Value → H} {P : Program} {w : World}
theorem weightsAll_in {e : TypeId} : ∀ {ds : List (DataW H)} {d : DataW H}, d ∈ ds → ∀ n ∈ d.weights P e, n ∈ DataW.weightsAll P e ds
  | d0 :: ds, d, h, n, hn => by
    simp only [DataW.weightsAll, List.mem_append]
    rcases List.mem_cons.1 h with rfl | h
    · exact .inl hn
    · exact .inr (weightsAll_in h n hn)

/-- A slice of bytes. -/
theorem open_bslice {t e : TypeId} {fuel : Nat} {cs : List Value} {x : DataW H × List MemPlace} (ht : P.underlying t = some (.slice e)) (he : P.underlying e = some (.int .u8)) (hc : P.cellsOf e = 1)
    (h : DataW.trod enc P w 0 (fun _ => true) true fuel t cs = some x) : ∃ (A : Option Addr) (n c : Nat) (l : List UInt8), cs = [.slice A n c] ∧ n ≤ c ∧ Rd w A (bytesV l) ∧ l.length = n ∧ ((n = 0) ∨ ∃ elems spare, x.1 = .slice elems spare ∧ elems.length = n) := by
  rcases open_ints ht he hc h with ⟨hcs, hx⟩ | ⟨a, len, cap, zs, hcs, _, hl, hm, hz, hx, hcell, hwz⟩
  · exact ⟨none, 0, 0, [], hcs, Nat.le_refl _, Rd.nil _ _, rfl, .inl rfl⟩
  · simp only [if_true] at hz
    have hbyte : ∀ i, i < zs.length → zs.getD i 0 = ((UInt8.ofNat (zs.getD i 0).toNat).toNat : Int) := fun i hi => by
      have hmem : zs.getD i 0 ∈ zs := by simp [List.getD, hi]
      have hwf := hwz _ hmem
      simp [Lit.wf, IntKind.min, IntKind.max, IntKind.signed, IntKind.bits] at hwf
      have hg : (zs.getD i 0).toNat < 256 := by simp only [List.getD_eq_getElem?_getD] at *; omega
      rw [UInt8.toNat_ofNat_of_lt' (by exact hg)]
      simp only [List.getD_eq_getElem?_getD] at *
      omega
    refine ⟨some a, len, cap, (zs.take len).map (fun z => UInt8.ofNat z.toNat), hcs, hl, fun i u hu => ⟨a, rfl, ?_⟩, by simp; omega, .inr ⟨_, _, by rw [hx], by simp [lits]; omega⟩⟩
    simp only [bytesV, List.map_map] at hu
    rw [List.getElem?_map, List.getElem?_take] at hu
    split at hu
    · rename_i hi
      have hiz : i < zs.length := by omega
      rw [List.getElem?_eq_getElem hiz] at hu
      simp only [Option.map_some, Option.some.injEq] at hu
      rw [hcell i hiz]
      have hgd : zs.getD i 0 = zs[i] := by simp [List.getD, hiz]
      have hb := hbyte i hiz
      rw [hgd] at hb ⊢
      rw [← hu]
      simp only [Function.comp, byteV]
      rw [← hb]
    · cases hu
/-- A slice of bools. -/
theorem open_blslice {t e : TypeId} {fuel : Nat} {cs : List Value} {x : DataW H × List MemPlace} (ht : P.underlying t = some (.slice e)) (he : P.underlying e = some .bool) (hc : P.cellsOf e = 1)
    (h : DataW.trod enc P w 0 (fun _ => true) true fuel t cs = some x) : ∃ (A : Option Addr) (n c : Nat) (l : List Bool), cs = [.slice A n c] ∧ n ≤ c ∧ c ≤ maxLen ∧ Rd w A (boolsV l) ∧ l.length = n := by
  rcases Deep.open_bools ht he hc h with ⟨hcs, _⟩ | ⟨a, len, cap, B, hcs, _, hl, hm, _, hcell⟩
  · exact ⟨none, 0, 0, [], hcs, Nat.le_refl _, by unfold maxLen; omega, Rd.nil _ _, rfl⟩
  · refine ⟨some a, len, cap, (List.range len).map B, hcs, hl, hm, fun i u hu => ⟨a, rfl, ?_⟩, by simp⟩
    simp only [boolsV, List.map_map] at hu
    rw [List.getElem?_map] at hu
    obtain ⟨j, hj, rfl⟩ := Option.map_eq_some_iff.1 hu
    have hi : i < len := by
      have := (List.getElem?_eq_some_iff.1 hj).1
      simpa using this
    rw [List.getElem?_range hi] at hj
    cases hj
    exact hcell i (by omega)
/-- An argument of type []bool. -/
theorem open_blarg {r : Reach} {bb : Nat} {t e : TypeId} {v : Value} {d : DataW H} {p : List MemPlace} (ht : P.underlying t = some (.slice e)) (he : P.underlying e = some .bool) (hc : P.cellsOf e = 1) (hv : Value.okWide P w r bb t v) (h : DataW.Trod enc P w 0 (fun _ => true) true t v d p) :
    ∃ (A : Option Addr) (n c : Nat) (l : List Bool), v = .slice A n c ∧ n ≤ c ∧ c ≤ maxLen ∧ Rd w A (boolsV l) ∧ l.length = n := by
  obtain ⟨a0, len, cap, rfl⟩ := okWide_slice ht hv
  obtain ⟨fuel, hf⟩ := h
  obtain ⟨A, n, c, l, h1, h2⟩ := open_blslice ht he hc hf
  simp [Value.cells] at h1
  obtain ⟨rfl, rfl, rfl⟩ := h1
  exact ⟨_, _, _, l, rfl, h2⟩

/-- What is known of a step that is an argument. -/
def StepOk (w : World) (s : Stp) : Prop := s.ok w [] ∧ s.n ≤ s.c ∧ -9223372036854775808 ≤ s.N ∧ s.N ≤ 9223372036854775807

theorem open_step {e t0 t1 t2 t3 t4 eb el : TypeId} {n0 n1 n2 n3 n4 g0 g1 g2 g3 g4 p0 p1 p2 p3 p4 : String} {b0 b1 b2 b3 b4 : Nat} {q0 q1 q2 q3 q4 : Bool} {fuel : Nat} {cs : List Value} {x : DataW H × List MemPlace}
    (he : P.underlying e = some (.struct #[⟨n0, t0, 0, q0, g0, p0, b0⟩, ⟨n1, t1, 1, q1, g1, p1, b1⟩, ⟨n2, t2, 2, q2, g2, p2, b2⟩, ⟨n3, t3, 3, q3, g3, p3, b3⟩, ⟨n4, t4, 4, q4, g4, p4, b4⟩]))
    (h0 : P.underlying t0 = some (.int .i64)) (h1 : P.underlying t1 = some (.int .i64)) (h2 : P.underlying t2 = some (.slice eb)) (h3 : P.underlying t3 = some (.int .i64)) (h4 : P.underlying t4 = some (.slice el)) (heb : P.underlying eb = some (.int .u8)) (hel : P.underlying el = some .bool)
    (c0 : P.cellsOf t0 = 1) (c1 : P.cellsOf t1 = 1) (c2 : P.cellsOf t2 = 1) (c3 : P.cellsOf t3 = 1) (c4 : P.cellsOf t4 = 1) (ceb : P.cellsOf eb = 1) (cel : P.cellsOf el = 1) (hby : P.bytesOf eb = 1) (hc : P.cellsOf e = 5)
    (h : DataW.trod enc P w 0 (fun _ => true) true fuel e cs = some x) : ∃ s : Stp, cs = stepV s ∧ StepOk w s ∧ (s.n = 0 ∨ ∃ k ∈ x.1.weights P e, s.n ≤ k) := by
  obtain ⟨xs, n, rfl, rfl, hl, hxs, hf⟩ := DataW.trod_struct he h
  rw [hc] at hl
  match cs, hl with
  | [u0, u1, u2, u3, u4], _ =>
    match xs, hxs with
    | [y0, y1, y2, y3, y4], _ =>
      have f0 : DataW.trod enc P w 0 (fun _ => true) true n t0 (([u0, u1, u2, u3, u4].drop 0).take (P.cellsOf t0)) = some y0 := hf 0 _ rfl
      have f1 : DataW.trod enc P w 0 (fun _ => true) true n t1 (([u0, u1, u2, u3, u4].drop 1).take (P.cellsOf t1)) = some y1 := hf 1 _ rfl
      have f2 : DataW.trod enc P w 0 (fun _ => true) true n t2 (([u0, u1, u2, u3, u4].drop 2).take (P.cellsOf t2)) = some y2 := hf 2 _ rfl
      have f3 : DataW.trod enc P w 0 (fun _ => true) true n t3 (([u0, u1, u2, u3, u4].drop 3).take (P.cellsOf t3)) = some y3 := hf 3 _ rfl
      have f4 : DataW.trod enc P w 0 (fun _ => true) true n t4 (([u0, u1, u2, u3, u4].drop 4).take (P.cellsOf t4)) = some y4 := hf 4 _ rfl
      rw [c0] at f0
      rw [c1] at f1
      rw [c2] at f2
      rw [c3] at f3
      rw [c4] at f4
      obtain ⟨k0, e0, rfl, w0⟩ := DataW.trod_int h0 f0
      obtain ⟨k1, e1, rfl, w1⟩ := DataW.trod_int h1 f1
      obtain ⟨A, bn, bc, bl, e2, h5, h6, h7, h8⟩ := open_bslice h2 heb ceb f2
      obtain ⟨k3, e3, rfl, w3⟩ := DataW.trod_int h3 f3
      obtain ⟨KA, kn, kc, kl, e4, h9, _, h10, h11⟩ := open_blslice h4 hel cel f4
      simp at e0 e1 e2 e3 e4
      subst e0 e1 e2 e3 e4
      have hN := i64_of_wf w3
      refine ⟨⟨k0, k1, A, bn, bc, k3, KA, kn, kc, bl, kl⟩, rfl, ⟨⟨Keeps.of h6, h7, Keeps.of h10, h11⟩, h5, hN.1, hN.2⟩, ?_⟩
      rcases h8 with h8 | ⟨elems, spare, hy, hlen⟩
      · exact .inl h8
      · right
        refine ⟨(elems.length + spare.length) * P.bytesOf eb, ?_, by simp only [hby]; omega⟩
        simp [DataW.weights, he, DataW.weightsEach, hy, h2]

/-- An argument of type []Step. -/
theorem open_steps {r : Reach} {bb : Nat} {t e t0 t1 t2 t3 t4 eb el : TypeId} {n0 n1 n2 n3 n4 g0 g1 g2 g3 g4 p0 p1 p2 p3 p4 : String} {b0 b1 b2 b3 b4 : Nat} {q0 q1 q2 q3 q4 : Bool} {v : Value} {d : DataW H} {p : List MemPlace} {ts : List TypeId} {ds : List (DataW H)} {j : Nat} (ht : P.underlying t = some (.slice e))
    (he : P.underlying e = some (.struct #[⟨n0, t0, 0, q0, g0, p0, b0⟩, ⟨n1, t1, 1, q1, g1, p1, b1⟩, ⟨n2, t2, 2, q2, g2, p2, b2⟩, ⟨n3, t3, 3, q3, g3, p3, b3⟩, ⟨n4, t4, 4, q4, g4, p4, b4⟩]))
    (h0 : P.underlying t0 = some (.int .i64)) (h1 : P.underlying t1 = some (.int .i64)) (h2 : P.underlying t2 = some (.slice eb)) (h3 : P.underlying t3 = some (.int .i64)) (h4 : P.underlying t4 = some (.slice el)) (heb : P.underlying eb = some (.int .u8)) (hel : P.underlying el = some .bool)
    (c0 : P.cellsOf t0 = 1) (c1 : P.cellsOf t1 = 1) (c2 : P.cellsOf t2 = 1) (c3 : P.cellsOf t3 = 1) (c4 : P.cellsOf t4 = 1) (ceb : P.cellsOf eb = 1) (cel : P.cellsOf el = 1) (hby : P.bytesOf eb = 1) (hc : P.cellsOf e = 5)
    (hsz : (DataW.weightsEach P ts ds).all (· ≤ reachBytes) = true) (htj : ts[j]? = some t) (hdj : ds[j]? = some d) (hv : Value.okWide P w r bb t v) (h : DataW.Trod enc P w 0 (fun _ => true) true t v d p) :
    ∃ (A : Option Addr) (n c : Nat) (l : List Stp), v = .slice A n c ∧ n ≤ c ∧ c ≤ maxLen ∧ Rd w A (stepsV l) ∧ l.length = n ∧ (∀ s ∈ l, s.ok w []) ∧ (∀ s ∈ l, s.n ≤ 140737488351232) := by
  obtain ⟨a0, len, cap, rfl⟩ := okWide_slice ht hv
  obtain ⟨fuel, hf⟩ := h
  rcases Deep.open_slice ht hf with ⟨hcs, hx⟩ | ⟨a, len', cap', m, n, D, Pl, hcs, _, hl, hm, hmm, hx, hel2⟩
  · simp [Value.cells] at hcs
    obtain ⟨rfl, rfl, rfl⟩ := hcs
    exact ⟨none, 0, 0, [], rfl, Nat.le_refl _, by unfold maxLen; omega, Rd.nil _ _, rfl, by simp, by simp⟩
  · simp [Value.cells] at hcs
    obtain ⟨rfl, rfl, rfl⟩ := hcs
    simp only [if_true] at hmm
    subst m
    simp only [Prod.mk.injEq] at hx
    obtain ⟨rfl, _⟩ := hx
    obtain ⟨V, hV⟩ := Deep.choose_lt (α := Stp) (n := cap) (p := fun i u => w.cells? 0 (a.add (i * 5)) 5 = some (stepV u) ∧ StepOk w u ∧ (u.n = 0 ∨ ∃ k ∈ (D i).weights P e, u.n ≤ k)) (fun i hi => by
      obtain ⟨cs', k1, k2⟩ := hel2 i hi
      rw [hc] at k1
      obtain ⟨u, rfl, k3, k4⟩ := open_step he h0 h1 h2 h3 h4 heb hel c0 c1 c2 c3 c4 ceb cel hby hc k2
      exact ⟨u, k1, k3, k4⟩)
    have hget : ∀ i, i < len → ((List.range len).map V).getD i Stp.nil = V i := fun i hi => by simp [List.getD, hi]
    refine ⟨some a, len, cap, (List.range len).map V, rfl, hl, hm, fun j u hu => ⟨a, rfl, ?_⟩, by simp, fun v hv => ?_, fun v hv => ?_⟩
    · have hj : j < (stepsV ((List.range len).map V)).length := (List.getElem?_eq_some_iff.1 hu).1
      rw [steps_length] at hj
      simp only [List.length_map, List.length_range] at hj
      have hi : j / 5 < len := by omega
      have e1 := steps_get ((List.range len).map V) (j / 5) (j % 5) (by simpa using hi) (by omega)
      rw [show j / 5 * 5 + j % 5 = j by omega, hu, hget _ hi] at e1
      obtain ⟨_, _, hcell⟩ := World.cells?_some (hV (j / 5) (by omega)).1
      have := hcell (j % 5) (by omega)
      rw [← e1, add_add, show j / 5 * 5 + j % 5 = j by omega] at this
      exact this
    · obtain ⟨i, hi, rfl⟩ := List.mem_map.1 hv
      exact (hV i (by have := List.mem_range.1 hi; omega)).2.1.1
    · obtain ⟨i, hi, rfl⟩ := List.mem_map.1 hv
      have hi' := List.mem_range.1 hi
      rcases (hV i (by omega)).2.2 with h9 | ⟨k, hk, hle⟩
      · omega
      · have h10 := List.all_eq_true.1 hsz k (DataW.weights_mem_each htj hdj k (by
          simp only [DataW.weights, ht]
          exact List.mem_cons_of_mem _ (List.mem_append_left _ (weightsAll_in (d := D i) (List.mem_map.2 ⟨i, hi, rfl⟩) _ hk))))
        have h11 : k ≤ 140737488351232 := of_decide_eq_true h10
        omega
end
end Go.WK
