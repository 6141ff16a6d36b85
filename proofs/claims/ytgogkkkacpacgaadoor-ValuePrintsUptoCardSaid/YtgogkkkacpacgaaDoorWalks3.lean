/- the values' functions, walked: numbers -/
import Derived.Test.YtgogkkkacpacgaaDoorWalks2
namespace Go.Proofs.YtgogkkkacpacgaaDoor
open Go.WK Go.RowKit 

theorem bval23_0_2 (x : Int) (z : List UInt8) : Tryd.prog.built 23 [(0, .int .i64 x), (2, .string (B z))] = some (Val.cs ⟨x, 0, z⟩).toArray := by kernel_rfl

theorem addF1 (x y : Int) (w : World) (hx : inR x = true) (hy : inR y = true) : Calls Tryd.prog 49 #[.int .i64 x, .int .i64 y] w (Pure w (resF (addF x y))) := by
  refine calls_tri (args := [.int .i64 x, .int .i64 y]) (lent := []) (H := []) Tryd.func49 rfl Tryd.ntmps49 rfl (Sat.start _ _ _ _) ?_
  refine (show Tri _ [(0, _), (1, _)] _ _ _ from ?_)
  refine tri_seq ?_
  refine tri_region ?_
  refine o_assign rfl rfl ?_
  refine o_assign rfl rfl ?_
  refine triL_nil ?_
  refine thenQ_normal ?_
  refine tri_seq ?_
  refine tri_region ?_
  refine o_move rfl rfl ?_
  refine o_move rfl rfl ?_
  refine o_add rfl rfl rfl ?_
  refine o_assign rfl rfl ?_
  refine triL_nil ?_
  refine thenQ_normal ?_
  refine tri_seq ?_
  refine tri_slots [(6, _), (0, _), (1, _)] (.cons rfl (.cons rfl (.cons rfl (.nil _)))) ?_
  refine tri_region ?_
  refine o_move rfl rfl ?_
  refine o_move rfl rfl ?_
  refine o_lss rfl rfl rfl ?_
  refine o_move rfl rfl ?_
  refine o_lss rfl rfl rfl ?_
  refine o_neqB rfl Tryd.underlying4 rfl rfl ?_
  refine o_move rfl rfl ?_
  refine' triL_or [_, _, _, _, _] [(10, _)] (dj := 16) (dr := 21) rfl rfl (fun g1 => ?_) ⟨_, rfl, rfl, rfl, (.cons rfl (.nil _))⟩ rfl ?_
  rotate_left
  · skip
    refine o_move rfl rfl ?_
    refine o_lss rfl rfl rfl ?_
    refine o_move rfl rfl ?_
    refine o_lss rfl rfl rfl ?_
    refine o_eqlB rfl Tryd.underlying4 rfl rfl ?_
    exact triL_nil (Piece.mk rfl rfl (.cons rfl (.nil _)) (fun _ h => h))
  refine o_assign rfl rfl ?_
  refine o_assign rfl rfl ?_
  refine triL_nil ?_
  refine thenQ_normal ?_
  refine tri_ret ?_
  refine end2 rfl rfl rfl ?_
  exact fun w1 hw1 => ⟨by rw [addOk hx hy]; rfl, hw1.chg⟩

theorem subF1 (x y : Int) (w : World) (hx : inR x = true) (hy : inR y = true) : Calls Tryd.prog 51 #[.int .i64 x, .int .i64 y] w (Pure w (resF (subF x y))) := by
  refine calls_tri (args := [.int .i64 x, .int .i64 y]) (lent := []) (H := []) Tryd.func51 rfl Tryd.ntmps51 rfl (Sat.start _ _ _ _) ?_
  refine (show Tri _ [(0, _), (1, _)] _ _ _ from ?_)
  refine tri_seq ?_
  refine tri_region ?_
  refine o_assign rfl rfl ?_
  refine o_assign rfl rfl ?_
  refine triL_nil ?_
  refine thenQ_normal ?_
  refine tri_seq ?_
  refine tri_region ?_
  refine o_move rfl rfl ?_
  refine o_move rfl rfl ?_
  refine o_sub rfl rfl rfl ?_
  refine o_assign rfl rfl ?_
  refine triL_nil ?_
  refine thenQ_normal ?_
  refine tri_seq ?_
  refine tri_slots [(6, _), (0, _), (1, _)] (.cons rfl (.cons rfl (.cons rfl (.nil _)))) ?_
  refine tri_region ?_
  refine o_move rfl rfl ?_
  refine o_move rfl rfl ?_
  refine o_lss rfl rfl rfl ?_
  refine o_move rfl rfl ?_
  refine o_lss rfl rfl rfl ?_
  refine o_eqlB rfl Tryd.underlying4 rfl rfl ?_
  refine o_move rfl rfl ?_
  refine' triL_or [_, _, _, _, _] [(10, _)] (dj := 16) (dr := 21) rfl rfl (fun g1 => ?_) ⟨_, rfl, rfl, rfl, (.cons rfl (.nil _))⟩ rfl ?_
  rotate_left
  · skip
    refine o_move rfl rfl ?_
    refine o_lss rfl rfl rfl ?_
    refine o_move rfl rfl ?_
    refine o_lss rfl rfl rfl ?_
    refine o_eqlB rfl Tryd.underlying4 rfl rfl ?_
    exact triL_nil (Piece.mk rfl rfl (.cons rfl (.nil _)) (fun _ h => h))
  refine o_assign rfl rfl ?_
  refine o_assign rfl rfl ?_
  refine triL_nil ?_
  refine thenQ_normal ?_
  refine tri_ret ?_
  refine end2 rfl rfl rfl ?_
  exact fun w1 hw1 => ⟨by rw [subOk hx hy]; rfl, hw1.chg⟩

theorem mulF_zero {x y : Int} (h : x = 0 ∨ y = 0) : mulF x y = (0, true) := by
  rcases h with rfl | rfl <;> simp [mulF, ex] <;> decide
theorem mulF_ok {x y : Int} (hx : inR x = true) (hy : inR y = true) (h : ¬ x = 0 ∧ ¬ y = 0) : mulF x y = (IntKind.i64.wrap (x * y), !(decide (x = -1) && decide (y = -9223372036854775808) || decide (y = -1) && decide (x = -9223372036854775808)) && decide (IntKind.i64.wrap ((IntKind.i64.wrap (x * y)).tdiv y) = x)) := by
  refine Prod.ext rfl ?_
  show inR (x * y) = _
  rw [Bool.eq_iff_iff, ← mulOk hx hy h.1 h.2]
  simp only [Bool.and_eq_true, Bool.not_eq_true', Bool.or_eq_false_iff, Bool.and_eq_false_iff, decide_eq_true_eq, decide_eq_false_iff_not]
  constructor
  · rintro ⟨a, b⟩; exact ⟨by omega, b⟩
  · rintro ⟨a, b⟩; exact ⟨by omega, b⟩

theorem mulF1 (x y : Int) (w : World) (hx : inR x = true) (hy : inR y = true) : Calls Tryd.prog 50 #[.int .i64 x, .int .i64 y] w (Pure w (resF (mulF x y))) := by
  refine calls_tri (args := [.int .i64 x, .int .i64 y]) (lent := []) (H := []) Tryd.func50 rfl Tryd.ntmps50 rfl (Sat.start _ _ _ _) ?_
  refine (show Tri _ [(0, _), (1, _)] _ _ _ from ?_)
  refine tri_seq ?_
  refine tri_region ?_
  refine o_assign rfl rfl ?_
  refine o_assign rfl rfl ?_
  refine triL_nil ?_
  refine thenQ_normal ?_
  refine tri_seq ?_
  refine tri_seq ?_
  refine tri_region ?_
  refine o_move rfl rfl ?_
  refine o_eqlI rfl rfl rfl ?_
  refine o_move rfl rfl ?_
  refine' triL_or [_, _] [(0, _), (1, _)] (dj := 9) (dr := 11) rfl rfl (fun g1 => ?_) ⟨_, rfl, rfl, rfl, (.cons rfl (.cons rfl (.nil _)))⟩ rfl ?_
  rotate_left
  · skip
    have g1 := of_decide_eq_false g1
    refine o_move rfl rfl ?_
    refine o_eqlI rfl rfl rfl ?_
    exact triL_nil (Piece.mk rfl rfl (.cons rfl (.cons rfl (.nil _))) (fun _ h => h))
  refine triL_nil ?_
  refine thenQ_normal ?_
  refine tri_cond rfl (fun h0 => ?_) (fun h0 => ?_)
  · skip
    simp only [Bool.or_eq_true, decide_eq_true_eq] at h0
    refine tri_seq ?_
    refine tri_region ?_
    refine o_assign rfl rfl ?_
    refine o_assign rfl rfl ?_
    refine triL_nil ?_
    refine thenQ_normal ?_
    refine tri_ret ?_
    refine thenQ_ret ?_
    refine end2 rfl rfl rfl ?_
    exact fun w1 hw1 => ⟨by have e : mulF x y = (0, true) := (by exact mulF_zero h0); rw [e] <;> rfl, hw1.chg⟩
  · skip
    simp only [Bool.or_eq_false_iff, decide_eq_false_iff_not] at h0
    refine tri_skip ?_
    refine thenQ_normal ?_
    refine tri_seq ?_
    refine tri_region ?_
    refine o_move rfl rfl ?_
    refine o_move rfl rfl ?_
    refine o_mul rfl rfl rfl ?_
    refine o_assign rfl rfl ?_
    refine triL_nil ?_
    refine thenQ_normal ?_
    refine tri_seq ?_
    refine tri_slots [(6, _), (0, _), (1, _)] (.cons rfl (.cons rfl (.cons rfl (.nil _)))) ?_
    refine tri_quiet (by kernel_rfl) (by kernel_rfl) ?_
    refine o_move rfl rfl ?_
    refine o_move rfl rfl ?_
    refine o_eqlI rfl rfl rfl ?_
    refine o_move rfl rfl ?_
    refine' triL_and [_, _] [(16, _), (6, _), (0, _), (1, _)] (dj := 19) (dr := 21) rfl rfl (fun g2 => ?_) ⟨_, rfl, rfl, rfl, (.cons rfl (.cons rfl (.cons rfl (.cons rfl (.nil _)))))⟩ rfl ?_
    rotate_left
    · skip
      have g2 := of_decide_eq_true g2
      refine o_move rfl rfl ?_
      refine o_eqlI rfl rfl rfl ?_
      exact triL_nil (Piece.mk rfl rfl (.cons rfl (.cons rfl (.cons rfl (.cons rfl (.nil _))))) (fun _ h => h))
    refine o_move rfl rfl ?_
    refine' triL_or [_, _, _, _, _, _] [(16, _), (6, _), (0, _), (1, _)] (dj := 23) (dr := 29) rfl rfl (fun g3 => ?_) ⟨_, rfl, rfl, rfl, (.cons rfl (.cons rfl (.cons rfl (.cons rfl (.nil _)))))⟩ rfl ?_
    rotate_left
    · skip
      refine o_move rfl rfl ?_
      refine o_eqlI rfl rfl rfl ?_
      refine o_move rfl rfl ?_
      refine' triL_and [_, _] [(23, _), (16, _), (6, _), (0, _), (1, _)] (dj := 26) (dr := 28) rfl rfl (fun g4 => ?_) ⟨_, rfl, rfl, rfl, (.cons rfl (.cons rfl (.cons rfl (.cons rfl (.cons rfl (.nil _))))))⟩ rfl ?_
      rotate_left
      · skip
        have g4 := of_decide_eq_true g4
        refine o_move rfl rfl ?_
        refine o_eqlI rfl rfl rfl ?_
        exact triL_nil (Piece.mk rfl rfl (.cons rfl (.cons rfl (.cons rfl (.cons rfl (.cons rfl (.nil _)))))) (fun _ h => h))
      exact triL_nil (Piece.mk rfl rfl (.cons rfl (.cons rfl (.cons rfl (.cons rfl (.nil _))))) (fun _ h => h))
    refine o_not rfl rfl ?_
    refine o_move rfl rfl ?_
    refine' triL_and [_, _, _, _, _] [(16, _)] (dj := 32) (dr := 37) rfl rfl (fun g5 => ?_) ⟨_, rfl, rfl, rfl, (.cons rfl (.nil _))⟩ rfl ?_
    rotate_left
    · skip
      refine o_move rfl rfl ?_
      refine o_move rfl rfl ?_
      refine o_quo rfl rfl rfl h0.2 ?_
      refine o_move rfl rfl ?_
      refine o_eqlI rfl rfl rfl ?_
      exact triL_nil (Piece.mk rfl rfl (.cons rfl (.nil _)) (fun _ h => h))
    refine o_assign rfl rfl ?_
    refine o_assign rfl rfl ?_
    refine triL_nil ?_
    refine thenQ_normal ?_
    refine tri_ret ?_
    refine end2 rfl rfl rfl ?_
    exact fun w1 hw1 => ⟨by rw [mulF_ok hx hy h0], hw1.chg⟩

theorem divF_over {x y : Int} (h : x = -9223372036854775808 ∧ y = -1) : divF x y = ((divF x y).1, false) := by
  obtain ⟨rfl, rfl⟩ := h
  decide
theorem divF_ok {x y : Int} (hx : inR x = true) (hy : inR y = true) (y0 : y ≠ 0) (h : ¬ x = -9223372036854775808 ∨ ¬ y = -1) : divF x y = (IntKind.i64.wrap (x.tdiv y), true) := by
  refine Prod.ext rfl ?_
  show inR (x.tdiv y) = true
  rw [tdiv_in hx hy y0]
  simp only [Bool.not_eq_true', Bool.and_eq_false_iff, decide_eq_false_iff_not]
  omega
theorem modF_one {x y : Int} (h : y = -1) : modF x y = (0, true) := by
  subst h
  have : x.tmod (-1) = 0 := by rw [Int.tmod_neg]; simp
  simp only [modF, ex, this]
  decide
theorem modF_ok {x y : Int} (hx : inR x = true) (y0 : y ≠ 0) : modF x y = (x.tmod y, true) := by
  have h := tmod_in hx y0
  refine Prod.ext ?_ h
  show IntKind.i64.wrap (x.tmod y) = x.tmod y
  exact wrap_of h
def divG (x y : Int) : Int × Bool := if x = -9223372036854775808 ∧ y = -1 then (0, false) else divF x y
theorem divG_same (x y : Int) : Same (divG x y) (divF x y) := by
  unfold divG
  split
  · rename_i h; rw [divF_over h]; exact ⟨rfl, fun e => by cases e⟩
  · exact ⟨rfl, fun _ => rfl⟩

theorem divF1 (x y : Int) (w : World) (hx : inR x = true) (hy : inR y = true) (y0 : y ≠ 0) : Calls Tryd.prog 53 #[.int .i64 x, .int .i64 y] w (Pure w (resF (divG x y))) := by
  refine calls_tri (args := [.int .i64 x, .int .i64 y]) (lent := []) (H := []) Tryd.func53 rfl Tryd.ntmps53 rfl (Sat.start _ _ _ _) ?_
  refine (show Tri _ [(0, _), (1, _)] _ _ _ from ?_)
  refine tri_seq ?_
  refine tri_region ?_
  refine o_assign rfl rfl ?_
  refine o_assign rfl rfl ?_
  refine triL_nil ?_
  refine thenQ_normal ?_
  refine tri_seq ?_
  refine tri_seq ?_
  refine tri_region ?_
  refine o_move rfl rfl ?_
  refine o_eqlI rfl rfl rfl ?_
  refine o_move rfl rfl ?_
  refine' triL_and [_, _] [(0, _), (1, _)] (dj := 8) (dr := 10) rfl rfl (fun g1 => ?_) ⟨_, rfl, rfl, rfl, (.cons rfl (.cons rfl (.nil _)))⟩ rfl ?_
  rotate_left
  · skip
    have g1 := of_decide_eq_true g1
    refine o_move rfl rfl ?_
    refine o_eqlI rfl rfl rfl ?_
    exact triL_nil (Piece.mk rfl rfl (.cons rfl (.cons rfl (.nil _))) (fun _ h => h))
  refine triL_nil ?_
  refine thenQ_normal ?_
  refine tri_cond rfl (fun h0 => ?_) (fun h0 => ?_)
  · skip
    simp only [Bool.and_eq_true, decide_eq_true_eq] at h0
    refine tri_seq ?_
    refine tri_region ?_
    refine o_assign rfl rfl ?_
    refine o_assign rfl rfl ?_
    refine triL_nil ?_
    refine thenQ_normal ?_
    refine tri_ret ?_
    refine thenQ_ret ?_
    refine end2 rfl rfl rfl ?_
    exact fun w1 hw1 => ⟨by have e : divG x y = (0, false) := (by rw [divG, if_pos h0]); rw [e] <;> rfl, hw1.chg⟩
  · skip
    simp only [Bool.and_eq_false_iff, decide_eq_false_iff_not] at h0
    refine tri_skip ?_
    refine thenQ_normal ?_
    refine tri_seq ?_
    refine tri_region ?_
    refine o_move rfl rfl ?_
    refine o_move rfl rfl ?_
    refine o_quo rfl rfl rfl y0 ?_
    refine o_assign rfl rfl ?_
    refine o_assign rfl rfl ?_
    refine triL_nil ?_
    refine thenQ_normal ?_
    refine tri_ret ?_
    refine end2 rfl rfl rfl ?_
    exact fun w1 hw1 => ⟨by have e : divG x y = (IntKind.i64.wrap (x.tdiv y), true) := (by rw [divG, if_neg (by omega)]; exact divF_ok hx hy y0 h0); rw [e] <;> rfl, hw1.chg⟩

theorem modF1 (x y : Int) (w : World) (hx : inR x = true) (hy : inR y = true) (y0 : y ≠ 0) : Calls Tryd.prog 54 #[.int .i64 x, .int .i64 y] w (Pure w (resF (modF x y))) := by
  refine calls_tri (args := [.int .i64 x, .int .i64 y]) (lent := []) (H := []) Tryd.func54 rfl Tryd.ntmps54 rfl (Sat.start _ _ _ _) ?_
  refine (show Tri _ [(0, _), (1, _)] _ _ _ from ?_)
  refine tri_seq ?_
  refine tri_region ?_
  refine o_assign rfl rfl ?_
  refine o_assign rfl rfl ?_
  refine triL_nil ?_
  refine thenQ_normal ?_
  refine tri_seq ?_
  refine tri_seq ?_
  refine tri_region ?_
  refine o_move rfl rfl ?_
  refine o_eqlI rfl rfl rfl ?_
  refine triL_nil ?_
  refine thenQ_normal ?_
  refine tri_if rfl (fun h0 => ?_) (fun h0 => ?_)
  · skip
    refine tri_seq ?_
    refine tri_slots [] (.nil _) ?_
    refine tri_region ?_
    refine o_assign rfl rfl ?_
    refine o_assign rfl rfl ?_
    refine triL_nil ?_
    refine thenQ_normal ?_
    refine tri_ret ?_
    refine thenQ_ret ?_
    refine end2 rfl rfl rfl ?_
    exact fun w1 hw1 => ⟨by have e : modF x y = (0, true) := (by exact modF_one h0); rw [e] <;> rfl, hw1.chg⟩
  · skip
    refine tri_skip ?_
    refine thenQ_normal ?_
    refine tri_seq ?_
    refine tri_slots [(0, _), (1, _)] (.cons rfl (.cons rfl (.nil _))) ?_
    refine tri_region ?_
    refine o_move rfl rfl ?_
    refine o_move rfl rfl ?_
    refine o_rem rfl rfl rfl y0 ?_
    refine o_assign rfl rfl ?_
    refine o_assign rfl rfl ?_
    refine triL_nil ?_
    refine thenQ_normal ?_
    refine tri_ret ?_
    refine end2 rfl rfl rfl ?_
    exact fun w1 hw1 => ⟨by have e : modF x y = (x.tmod y, true) := (by exact modF_ok hx y0); rw [e] <;> rfl, hw1.chg⟩

theorem negF_eq (x y : Int) (hx : x = 0) (hy : inR y = true) : subF x y = (IntKind.i64.wrap (0 - y), decide (y ≠ -9223372036854775808)) := by
  subst hx
  obtain ⟨y1, y2⟩ := inR_iff.1 hy
  refine Prod.ext rfl ?_
  show inR (0 - y) = _
  rw [Bool.eq_iff_iff, inR_iff, decide_eq_true_iff]
  omega

theorem negF1 (x y : Int) (w : World) (hx : x = 0) (hy : inR y = true) : Calls Tryd.prog 68 #[.int .i64 x, .int .i64 y] w (Pure w (resF (subF x y))) := by
  refine calls_tri (args := [.int .i64 x, .int .i64 y]) (lent := []) (H := []) Tryd.func68 rfl Tryd.ntmps68 rfl (Sat.start _ _ _ _) ?_
  refine (show Tri _ [(0, _), (1, _)] _ _ _ from ?_)
  refine tri_seq ?_
  refine tri_region ?_
  refine o_assign rfl rfl ?_
  refine o_assign rfl rfl ?_
  refine triL_nil ?_
  refine thenQ_normal ?_
  refine tri_seq ?_
  refine tri_region ?_
  refine o_move rfl rfl ?_
  refine o_negI rfl rfl ?_
  refine o_move rfl rfl ?_
  refine o_neqI rfl rfl rfl ?_
  refine o_assign rfl rfl ?_
  refine o_assign rfl rfl ?_
  refine triL_nil ?_
  refine thenQ_normal ?_
  refine tri_ret ?_
  refine end2 rfl rfl rfl ?_
  exact fun w1 hw1 => ⟨by have e : subF x y = (IntKind.i64.wrap (0 - y), decide (y ≠ -9223372036854775808)) := (by exact negF_eq x y hx hy); rw [e] <;> rfl, hw1.chg⟩

theorem reckonedK (a b : Val) (f : Int → Int → Int × Bool) (q : Nat) (w : World) (fa : fit a) (fb : fit b) (hc : ∀ args w, (callFunc q args).run Tryd.prog w = .ok (.enter q args) w) (hq : allE 1 [a, b] = 0 → a.k ≠ 0 → b.k ≠ 0 → ∀ w, Calls Tryd.prog q #[.int .i64 a.n, .int .i64 b.n] w (Pure w (resF (f a.n b.n)))) : Calls Tryd.prog 48 #[aggV a, aggV b, .func (.func q) #[] #[]] w (Pure w (resV (reck f a b))) := by
  refine calls_tri (args := [aggV a, aggV b, .func (.func q) #[] #[]]) (lent := []) (H := []) Tryd.func48 rfl Tryd.ntmps48 rfl (Sat.start _ _ _ _) ?_
  refine (show Tri _ [(0, _), (1, _), (2, _)] _ _ _ from ?_)
  have fab : ∀ v ∈ [a, b], fit v := fun v hv => by rcases List.mem_cons.1 hv with rfl | hv; exact fa; obtain rfl := List.mem_singleton.1 hv; exact fb
  refine tri_seq ?_
  refine tri_region ?_
  refine o_box (Val.cs _) rfl rfl rfl (fun b3 => ?_)
  refine o_box (Val.cs _) rfl rfl rfl (fun b4 => ?_)
  refine o_alloc (Val.cs Val.zero) rfl zero23 rfl (fun b6 => ?_)
  refine o_assign rfl rfl ?_
  refine triL_nil ?_
  refine thenQ_normal ?_
  refine tri_seq ?_
  refine tri_seq ?_
  refine tri_region ?_
  refine o_loadBV agg23 sz23 (by first | exact Nth.z | exact .s .z | exact .s (.s .z) | exact .s (.s (.s .z)) | exact .s (.s (.s (.s .z))) | exact .s (.s (.s (.s (.s .z)))) | exact .s (.s (.s (.s (.s (.s .z))))) | exact .s (.s (.s (.s (.s (.s (.s .z))))))) rfl rfl ?_
  refine o_loadBV agg23 sz23 (by first | exact Nth.z | exact .s .z | exact .s (.s .z) | exact .s (.s (.s .z)) | exact .s (.s (.s (.s .z))) | exact .s (.s (.s (.s (.s .z)))) | exact .s (.s (.s (.s (.s (.s .z))))) | exact .s (.s (.s (.s (.s (.s (.s .z))))))) rfl rfl ?_
  refine o_lit (parts := [_, _]) (valsV [a, b]) Tryd.underlying35 zs23 rfl rfl rfl rfl (by decide) (by decide) (fun b13 => ?_)
  refine o_callP (first := []) (cap := []) rfl rfl rfl Tryd.call52 (fun w1 h1 => allK 1 _ 2 2 [a, b] w1 (h1.rd (RdS.row .z)) rfl (by omega) fab) ?_
  refine o_assign rfl rfl ?_
  refine triL_nil ?_
  refine thenQ_normal ?_
  refine tri_seq ?_
  refine tri_slots [(8, _), (6, _), (4, _), (3, _), (2, _)] (.cons rfl (.cons rfl (.cons rfl (.cons rfl (.cons rfl (.nil _)))))) ?_
  refine tri_region ?_
  refine o_move rfl rfl ?_
  refine o_neqI rfl rfl rfl ?_
  refine o_move rfl rfl ?_
  refine' triL_or [_, _, _] [(8, _), (6, _), (4, _), (3, _), (2, _)] (dj := 17) (dr := 20) rfl rfl (fun g1 => ?_) ⟨_, rfl, rfl, rfl, (.cons rfl (.cons rfl (.cons rfl (.cons rfl (.cons rfl (.nil _))))))⟩ rfl ?_
  rotate_left
  · skip
    have g1 := of_decide_eq_false g1
    refine o_field fo23_0 rfl rfl ?_
    refine o_load agg3 (by first | exact Nth.z | exact .s .z | exact .s (.s .z) | exact .s (.s (.s .z)) | exact .s (.s (.s (.s .z))) | exact .s (.s (.s (.s (.s .z)))) | exact .s (.s (.s (.s (.s (.s .z))))) | exact .s (.s (.s (.s (.s (.s (.s .z))))))) rfl rfl rfl ?_
    refine o_eqlI rfl rfl rfl ?_
    exact triL_nil (Piece.mk rfl rfl (.cons rfl (.cons rfl (.cons rfl (.cons rfl (.cons rfl (.nil _)))))) (fun _ h => h))
  refine o_move rfl rfl ?_
  refine' triL_or [_, _, _] [(8, _), (6, _), (4, _), (3, _), (2, _)] (dj := 22) (dr := 25) rfl rfl (fun g2 => ?_) ⟨_, rfl, rfl, rfl, (.cons rfl (.cons rfl (.cons rfl (.cons rfl (.cons rfl (.nil _))))))⟩ rfl ?_
  rotate_left
  · skip
    refine o_field fo23_0 rfl rfl ?_
    refine o_load agg3 (by first | exact Nth.z | exact .s .z | exact .s (.s .z) | exact .s (.s (.s .z)) | exact .s (.s (.s (.s .z))) | exact .s (.s (.s (.s (.s .z)))) | exact .s (.s (.s (.s (.s (.s .z))))) | exact .s (.s (.s (.s (.s (.s (.s .z))))))) rfl rfl rfl ?_
    refine o_eqlI rfl rfl rfl ?_
    exact triL_nil (Piece.mk rfl rfl (.cons rfl (.cons rfl (.cons rfl (.cons rfl (.cons rfl (.nil _)))))) (fun _ h => h))
  refine triL_nil ?_
  refine thenQ_normal ?_
  refine tri_cond rfl (fun h2 => ?_) (fun h2 => ?_)
  · skip
    simp only [Bool.or_eq_true, decide_eq_true_eq] at h2
    refine tri_seq ?_
    refine tri_slots [(8, _), (6, _)] (.cons rfl (.cons rfl (.nil _))) ?_
    refine tri_region ?_
    refine o_build bval23 rfl rfl ?_
    refine o_move rfl rfl ?_
    refine o_storeBV sz23 (by first | exact Nth.z | exact .s .z | exact .s (.s .z) | exact .s (.s (.s .z)) | exact .s (.s (.s (.s .z))) | exact .s (.s (.s (.s (.s .z)))) | exact .s (.s (.s (.s (.s (.s .z))))) | exact .s (.s (.s (.s (.s (.s (.s .z))))))) rfl rfl rfl ?_
    refine o_assign rfl rfl ?_
    refine triL_nil ?_
    refine thenQ_normal ?_
    refine tri_ret ?_
    refine thenQ_ret ?_
    refine endC2 rfl agg23 sz23 (by first | exact Nth.z | exact .s .z | exact .s (.s .z) | exact .s (.s (.s .z)) | exact .s (.s (.s (.s .z))) | exact .s (.s (.s (.s (.s .z)))) | exact .s (.s (.s (.s (.s (.s .z))))) | exact .s (.s (.s (.s (.s (.s (.s .z))))))) rfl rfl rfl ?_
    exact fun w1 hw1 => ⟨by have e : reck f a b = (Val.zero, allE 1 [a, b]) := (by rw [reck, if_pos (by omega)]); rw [e] <;> rfl, hw1.chg⟩
  · skip
    simp only [Bool.or_eq_false_iff, decide_eq_false_iff_not] at h2
    have e1 : allE 1 [a, b] = 0 := Decidable.not_not.1 h2.1.1
    refine tri_skip ?_
    refine thenQ_normal ?_
    refine tri_seq ?_
    refine tri_region ?_
    refine o_move rfl rfl ?_
    refine o_field fo23_1 rfl rfl ?_
    refine o_load agg2 (by first | exact Nth.z | exact .s .z | exact .s (.s .z) | exact .s (.s (.s .z)) | exact .s (.s (.s (.s .z))) | exact .s (.s (.s (.s (.s .z)))) | exact .s (.s (.s (.s (.s (.s .z))))) | exact .s (.s (.s (.s (.s (.s (.s .z))))))) rfl rfl rfl ?_
    refine o_field fo23_1 rfl rfl ?_
    refine o_load agg2 (by first | exact Nth.z | exact .s .z | exact .s (.s .z) | exact .s (.s (.s .z)) | exact .s (.s (.s (.s .z))) | exact .s (.s (.s (.s (.s .z)))) | exact .s (.s (.s (.s (.s (.s .z))))) | exact .s (.s (.s (.s (.s (.s (.s .z))))))) rfl rfl rfl ?_
    refine o_callP (first := []) (cap := []) rfl rfl rfl hc (fun w1 h1 => hq e1 h2.1.2 h2.2 w1) ?_
    refine o_move rfl rfl ?_
    refine o_extract rfl rfl rfl ?_
    refine o_extract rfl rfl rfl ?_
    refine o_assign rfl rfl ?_
    refine o_assign rfl rfl ?_
    refine triL_nil ?_
    refine thenQ_normal ?_
    refine tri_seq ?_
    refine tri_seq ?_
    refine tri_slots [(10, _), (9, _), (6, _)] (.cons rfl (.cons rfl (.cons rfl (.nil _)))) ?_
    refine tri_region ?_
    refine o_move rfl rfl ?_
    refine o_not rfl rfl ?_
    refine triL_nil ?_
    refine thenQ_normal ?_
    refine tri_cond rfl (fun h3 => ?_) (fun h3 => ?_)
    · skip
      have h3 : ¬ (f a.n b.n).2 = true := by simpa using h3
      refine tri_seq ?_
      refine tri_slots [(6, _)] (.cons rfl (.nil _)) ?_
      refine tri_region ?_
      refine o_build bval23 rfl rfl ?_
      refine o_storeBV sz23 (by first | exact Nth.z | exact .s .z | exact .s (.s .z) | exact .s (.s (.s .z)) | exact .s (.s (.s (.s .z))) | exact .s (.s (.s (.s (.s .z)))) | exact .s (.s (.s (.s (.s (.s .z))))) | exact .s (.s (.s (.s (.s (.s (.s .z))))))) rfl rfl rfl ?_
      refine o_assign rfl rfl ?_
      refine triL_nil ?_
      refine thenQ_normal ?_
      refine tri_ret ?_
      refine thenQ_ret ?_
      refine endC2 rfl agg23 sz23 (by first | exact Nth.z | exact .s .z | exact .s (.s .z) | exact .s (.s (.s .z)) | exact .s (.s (.s (.s .z))) | exact .s (.s (.s (.s (.s .z)))) | exact .s (.s (.s (.s (.s (.s .z))))) | exact .s (.s (.s (.s (.s (.s (.s .z))))))) rfl rfl rfl ?_
      exact fun w1 hw1 => ⟨by have e : reck f a b = (Val.zero, 31) := (by rw [reck, if_neg (by omega), if_neg h3]); rw [e] <;> rfl, hw1.chg⟩
    · skip
      have h3 : (f a.n b.n).2 = true := by simpa using h3
      refine tri_skip ?_
      refine thenQ_normal ?_
      refine tri_seq ?_
      refine tri_region ?_
      refine o_move rfl rfl ?_
      refine o_build (bval23_0_1 _ _) rfl rfl ?_
      refine o_storeBV sz23 (by first | exact Nth.z | exact .s .z | exact .s (.s .z) | exact .s (.s (.s .z)) | exact .s (.s (.s (.s .z))) | exact .s (.s (.s (.s (.s .z)))) | exact .s (.s (.s (.s (.s (.s .z))))) | exact .s (.s (.s (.s (.s (.s (.s .z))))))) rfl rfl rfl ?_
      refine o_assign rfl rfl ?_
      refine triL_nil ?_
      refine thenQ_normal ?_
      refine tri_ret ?_
      refine endC2 rfl agg23 sz23 (by first | exact Nth.z | exact .s .z | exact .s (.s .z) | exact .s (.s (.s .z)) | exact .s (.s (.s (.s .z))) | exact .s (.s (.s (.s (.s .z)))) | exact .s (.s (.s (.s (.s (.s .z))))) | exact .s (.s (.s (.s (.s (.s (.s .z))))))) rfl rfl rfl ?_
      exact fun w1 hw1 => ⟨by have e : reck f a b = (⟨1, (f a.n b.n).1, []⟩, 0) := (by rw [reck, if_neg (by omega), if_pos h3]); rw [e] <;> rfl, hw1.chg⟩

theorem nIn {v : Val} (h : fit v) : inR v.n = true := inR_iff.2 h.1.2

theorem addK (a b : Val) (w : World) (fa : fit a) (fb : fit b) : Calls Tryd.prog 18 #[aggV a, aggV b] w (Pure w (resV (reck addF a b))) := by
  refine calls_tri (args := [aggV a, aggV b]) (lent := []) (H := []) Tryd.func18 rfl Tryd.ntmps18 rfl (Sat.start _ _ _ _) ?_
  refine (show Tri _ [(0, _), (1, _)] _ _ _ from ?_)
  refine tri_seq ?_
  refine tri_region ?_
  refine o_box (Val.cs _) rfl rfl rfl (fun b2 => ?_)
  refine o_box (Val.cs _) rfl rfl rfl (fun b3 => ?_)
  refine o_alloc (Val.cs Val.zero) rfl zero23 rfl (fun b4 => ?_)
  refine o_assign rfl rfl ?_
  refine triL_nil ?_
  refine thenQ_normal ?_
  refine tri_seq ?_
  refine tri_region ?_
  refine o_loadBV agg23 sz23 (by first | exact Nth.z | exact .s .z | exact .s (.s .z) | exact .s (.s (.s .z)) | exact .s (.s (.s (.s .z))) | exact .s (.s (.s (.s (.s .z)))) | exact .s (.s (.s (.s (.s (.s .z))))) | exact .s (.s (.s (.s (.s (.s (.s .z))))))) rfl rfl ?_
  refine o_loadBV agg23 sz23 (by first | exact Nth.z | exact .s .z | exact .s (.s .z) | exact .s (.s (.s .z)) | exact .s (.s (.s (.s .z))) | exact .s (.s (.s (.s (.s .z)))) | exact .s (.s (.s (.s (.s (.s .z))))) | exact .s (.s (.s (.s (.s (.s (.s .z))))))) rfl rfl ?_
  refine o_callP (first := []) (cap := []) rfl rfl rfl Tryd.call48 (fun w1 h1 => reckonedK a b addF 49 w1 fa fb Tryd.call49 (fun _ _ _ w2 => addF1 _ _ w2 (nIn fa) (nIn fb))) ?_
  refine o_extract rfl rfl rfl ?_
  refine o_extract rfl rfl rfl ?_
  refine o_storeBV sz23 (by first | exact Nth.z | exact .s .z | exact .s (.s .z) | exact .s (.s (.s .z)) | exact .s (.s (.s (.s .z))) | exact .s (.s (.s (.s (.s .z)))) | exact .s (.s (.s (.s (.s (.s .z))))) | exact .s (.s (.s (.s (.s (.s (.s .z))))))) rfl rfl rfl ?_
  refine o_assign rfl rfl ?_
  refine triL_nil ?_
  refine thenQ_normal ?_
  refine tri_ret ?_
  refine endC2 rfl agg23 sz23 (by first | exact Nth.z | exact .s .z | exact .s (.s .z) | exact .s (.s (.s .z)) | exact .s (.s (.s (.s .z))) | exact .s (.s (.s (.s (.s .z)))) | exact .s (.s (.s (.s (.s (.s .z))))) | exact .s (.s (.s (.s (.s (.s (.s .z))))))) rfl rfl rfl ?_
  exact fin_pure

theorem subK (a b : Val) (w : World) (fa : fit a) (fb : fit b) : Calls Tryd.prog 20 #[aggV a, aggV b] w (Pure w (resV (reck subF a b))) := by
  refine calls_tri (args := [aggV a, aggV b]) (lent := []) (H := []) Tryd.func20 rfl Tryd.ntmps20 rfl (Sat.start _ _ _ _) ?_
  refine (show Tri _ [(0, _), (1, _)] _ _ _ from ?_)
  refine tri_seq ?_
  refine tri_region ?_
  refine o_box (Val.cs _) rfl rfl rfl (fun b2 => ?_)
  refine o_box (Val.cs _) rfl rfl rfl (fun b3 => ?_)
  refine o_alloc (Val.cs Val.zero) rfl zero23 rfl (fun b4 => ?_)
  refine o_assign rfl rfl ?_
  refine triL_nil ?_
  refine thenQ_normal ?_
  refine tri_seq ?_
  refine tri_region ?_
  refine o_loadBV agg23 sz23 (by first | exact Nth.z | exact .s .z | exact .s (.s .z) | exact .s (.s (.s .z)) | exact .s (.s (.s (.s .z))) | exact .s (.s (.s (.s (.s .z)))) | exact .s (.s (.s (.s (.s (.s .z))))) | exact .s (.s (.s (.s (.s (.s (.s .z))))))) rfl rfl ?_
  refine o_loadBV agg23 sz23 (by first | exact Nth.z | exact .s .z | exact .s (.s .z) | exact .s (.s (.s .z)) | exact .s (.s (.s (.s .z))) | exact .s (.s (.s (.s (.s .z)))) | exact .s (.s (.s (.s (.s (.s .z))))) | exact .s (.s (.s (.s (.s (.s (.s .z))))))) rfl rfl ?_
  refine o_callP (first := []) (cap := []) rfl rfl rfl Tryd.call48 (fun w1 h1 => reckonedK a b subF 51 w1 fa fb Tryd.call51 (fun _ _ _ w2 => subF1 _ _ w2 (nIn fa) (nIn fb))) ?_
  refine o_extract rfl rfl rfl ?_
  refine o_extract rfl rfl rfl ?_
  refine o_storeBV sz23 (by first | exact Nth.z | exact .s .z | exact .s (.s .z) | exact .s (.s (.s .z)) | exact .s (.s (.s (.s .z))) | exact .s (.s (.s (.s (.s .z)))) | exact .s (.s (.s (.s (.s (.s .z))))) | exact .s (.s (.s (.s (.s (.s (.s .z))))))) rfl rfl rfl ?_
  refine o_assign rfl rfl ?_
  refine triL_nil ?_
  refine thenQ_normal ?_
  refine tri_ret ?_
  refine endC2 rfl agg23 sz23 (by first | exact Nth.z | exact .s .z | exact .s (.s .z) | exact .s (.s (.s .z)) | exact .s (.s (.s (.s .z))) | exact .s (.s (.s (.s (.s .z)))) | exact .s (.s (.s (.s (.s (.s .z))))) | exact .s (.s (.s (.s (.s (.s (.s .z))))))) rfl rfl rfl ?_
  exact fin_pure

theorem mulK (a b : Val) (w : World) (fa : fit a) (fb : fit b) : Calls Tryd.prog 19 #[aggV a, aggV b] w (Pure w (resV (reck mulF a b))) := by
  refine calls_tri (args := [aggV a, aggV b]) (lent := []) (H := []) Tryd.func19 rfl Tryd.ntmps19 rfl (Sat.start _ _ _ _) ?_
  refine (show Tri _ [(0, _), (1, _)] _ _ _ from ?_)
  refine tri_seq ?_
  refine tri_region ?_
  refine o_box (Val.cs _) rfl rfl rfl (fun b2 => ?_)
  refine o_box (Val.cs _) rfl rfl rfl (fun b3 => ?_)
  refine o_alloc (Val.cs Val.zero) rfl zero23 rfl (fun b4 => ?_)
  refine o_assign rfl rfl ?_
  refine triL_nil ?_
  refine thenQ_normal ?_
  refine tri_seq ?_
  refine tri_region ?_
  refine o_loadBV agg23 sz23 (by first | exact Nth.z | exact .s .z | exact .s (.s .z) | exact .s (.s (.s .z)) | exact .s (.s (.s (.s .z))) | exact .s (.s (.s (.s (.s .z)))) | exact .s (.s (.s (.s (.s (.s .z))))) | exact .s (.s (.s (.s (.s (.s (.s .z))))))) rfl rfl ?_
  refine o_loadBV agg23 sz23 (by first | exact Nth.z | exact .s .z | exact .s (.s .z) | exact .s (.s (.s .z)) | exact .s (.s (.s (.s .z))) | exact .s (.s (.s (.s (.s .z)))) | exact .s (.s (.s (.s (.s (.s .z))))) | exact .s (.s (.s (.s (.s (.s (.s .z))))))) rfl rfl ?_
  refine o_callP (first := []) (cap := []) rfl rfl rfl Tryd.call48 (fun w1 h1 => reckonedK a b mulF 50 w1 fa fb Tryd.call50 (fun _ _ _ w2 => mulF1 _ _ w2 (nIn fa) (nIn fb))) ?_
  refine o_extract rfl rfl rfl ?_
  refine o_extract rfl rfl rfl ?_
  refine o_storeBV sz23 (by first | exact Nth.z | exact .s .z | exact .s (.s .z) | exact .s (.s (.s .z)) | exact .s (.s (.s (.s .z))) | exact .s (.s (.s (.s (.s .z)))) | exact .s (.s (.s (.s (.s (.s .z))))) | exact .s (.s (.s (.s (.s (.s (.s .z))))))) rfl rfl rfl ?_
  refine o_assign rfl rfl ?_
  refine triL_nil ?_
  refine thenQ_normal ?_
  refine tri_ret ?_
  refine endC2 rfl agg23 sz23 (by first | exact Nth.z | exact .s .z | exact .s (.s .z) | exact .s (.s (.s .z)) | exact .s (.s (.s (.s .z))) | exact .s (.s (.s (.s (.s .z)))) | exact .s (.s (.s (.s (.s (.s .z))))) | exact .s (.s (.s (.s (.s (.s (.s .z))))))) rfl rfl rfl ?_
  exact fin_pure

theorem divK (a b : Val) (w : World) (fa : fit a) (fb : fit b) : Calls Tryd.prog 21 #[aggV a, aggV b] w (Pure w (resV (reckZ divF a b))) := by
  refine calls_tri (args := [aggV a, aggV b]) (lent := []) (H := []) Tryd.func21 rfl Tryd.ntmps21 rfl (Sat.start _ _ _ _) ?_
  refine (show Tri _ [(0, _), (1, _)] _ _ _ from ?_)
  have fab : ∀ v ∈ [a, b], fit v := fun v hv => by rcases List.mem_cons.1 hv with rfl | hv; exact fa; obtain rfl := List.mem_singleton.1 hv; exact fb
  refine tri_seq ?_
  refine tri_region ?_
  refine o_box (Val.cs _) rfl rfl rfl (fun b2 => ?_)
  refine o_box (Val.cs _) rfl rfl rfl (fun b3 => ?_)
  refine o_alloc (Val.cs Val.zero) rfl zero23 rfl (fun b4 => ?_)
  refine o_assign rfl rfl ?_
  refine triL_nil ?_
  refine thenQ_normal ?_
  refine tri_seq ?_
  refine tri_seq ?_
  refine tri_region ?_
  refine o_loadBV agg23 sz23 (by first | exact Nth.z | exact .s .z | exact .s (.s .z) | exact .s (.s (.s .z)) | exact .s (.s (.s (.s .z))) | exact .s (.s (.s (.s (.s .z)))) | exact .s (.s (.s (.s (.s (.s .z))))) | exact .s (.s (.s (.s (.s (.s (.s .z))))))) rfl rfl ?_
  refine o_loadBV agg23 sz23 (by first | exact Nth.z | exact .s .z | exact .s (.s .z) | exact .s (.s (.s .z)) | exact .s (.s (.s (.s .z))) | exact .s (.s (.s (.s (.s .z)))) | exact .s (.s (.s (.s (.s (.s .z))))) | exact .s (.s (.s (.s (.s (.s (.s .z))))))) rfl rfl ?_
  refine o_lit (parts := [_, _]) (valsV [a, b]) Tryd.underlying35 zs23 rfl rfl rfl rfl (by decide) (by decide) (fun b8 => ?_)
  refine o_callP (first := []) (cap := []) rfl rfl rfl Tryd.call52 (fun w1 h1 => allK 1 _ 2 2 [a, b] w1 (h1.rd (RdS.row .z)) rfl (by omega) fab) ?_
  refine o_eqlI rfl rfl rfl ?_
  refine o_move rfl rfl ?_
  refine' triL_and [_, _, _] [(4, _), (3, _), (2, _)] (dj := 11) (dr := 14) rfl rfl (fun g1 => ?_) ⟨_, rfl, rfl, rfl, (.cons rfl (.cons rfl (.cons rfl (.nil _))))⟩ rfl ?_
  rotate_left
  · skip
    have g1 := of_decide_eq_true g1
    refine o_field fo23_0 rfl rfl ?_
    refine o_load agg3 (by first | exact Nth.z | exact .s .z | exact .s (.s .z) | exact .s (.s (.s .z)) | exact .s (.s (.s (.s .z))) | exact .s (.s (.s (.s (.s .z)))) | exact .s (.s (.s (.s (.s (.s .z))))) | exact .s (.s (.s (.s (.s (.s (.s .z))))))) rfl rfl rfl ?_
    refine o_neqI rfl rfl rfl ?_
    exact triL_nil (Piece.mk rfl rfl (.cons rfl (.cons rfl (.cons rfl (.nil _)))) (fun _ h => h))
  refine o_move rfl rfl ?_
  refine' triL_and [_, _, _] [(4, _), (3, _), (2, _)] (dj := 16) (dr := 19) rfl rfl (fun g2 => ?_) ⟨_, rfl, rfl, rfl, (.cons rfl (.cons rfl (.cons rfl (.nil _))))⟩ rfl ?_
  rotate_left
  · skip
    refine o_field fo23_0 rfl rfl ?_
    refine o_load agg3 (by first | exact Nth.z | exact .s .z | exact .s (.s .z) | exact .s (.s (.s .z)) | exact .s (.s (.s (.s .z))) | exact .s (.s (.s (.s (.s .z)))) | exact .s (.s (.s (.s (.s (.s .z))))) | exact .s (.s (.s (.s (.s (.s (.s .z))))))) rfl rfl rfl ?_
    refine o_neqI rfl rfl rfl ?_
    exact triL_nil (Piece.mk rfl rfl (.cons rfl (.cons rfl (.cons rfl (.nil _)))) (fun _ h => h))
  refine o_move rfl rfl ?_
  refine' triL_and [_, _, _] [(4, _), (3, _), (2, _)] (dj := 21) (dr := 24) rfl rfl (fun g3 => ?_) ⟨_, rfl, rfl, rfl, (.cons rfl (.cons rfl (.cons rfl (.nil _))))⟩ rfl ?_
  rotate_left
  · skip
    refine o_field fo23_1 rfl rfl ?_
    refine o_load agg2 (by first | exact Nth.z | exact .s .z | exact .s (.s .z) | exact .s (.s (.s .z)) | exact .s (.s (.s (.s .z))) | exact .s (.s (.s (.s (.s .z)))) | exact .s (.s (.s (.s (.s (.s .z))))) | exact .s (.s (.s (.s (.s (.s (.s .z))))))) rfl rfl rfl ?_
    refine o_eqlI rfl rfl rfl ?_
    exact triL_nil (Piece.mk rfl rfl (.cons rfl (.cons rfl (.cons rfl (.nil _)))) (fun _ h => h))
  refine triL_nil ?_
  refine thenQ_normal ?_
  refine tri_cond rfl (fun h2 => ?_) (fun h2 => ?_)
  · skip
    simp only [Bool.and_eq_true, decide_eq_true_eq] at h2
    refine tri_seq ?_
    refine tri_region ?_
    refine o_build bval23 rfl rfl ?_
    refine o_storeBV sz23 (by first | exact Nth.z | exact .s .z | exact .s (.s .z) | exact .s (.s (.s .z)) | exact .s (.s (.s (.s .z))) | exact .s (.s (.s (.s (.s .z)))) | exact .s (.s (.s (.s (.s (.s .z))))) | exact .s (.s (.s (.s (.s (.s (.s .z))))))) rfl rfl rfl ?_
    refine o_assign rfl rfl ?_
    refine triL_nil ?_
    refine thenQ_normal ?_
    refine tri_ret ?_
    refine thenQ_ret ?_
    refine endC2 rfl agg23 sz23 (by first | exact Nth.z | exact .s .z | exact .s (.s .z) | exact .s (.s (.s .z)) | exact .s (.s (.s (.s .z))) | exact .s (.s (.s (.s (.s .z)))) | exact .s (.s (.s (.s (.s (.s .z))))) | exact .s (.s (.s (.s (.s (.s (.s .z))))))) rfl rfl rfl ?_
    exact fun w1 hw1 => ⟨by have e : reckZ divF a b = (Val.zero, 32) := (by rw [reckZ, if_pos (by omega)]); rw [e] <;> rfl, hw1.chg⟩
  · skip
    simp only [Bool.and_eq_false_iff, decide_eq_false_iff_not] at h2
    refine tri_skip ?_
    refine thenQ_normal ?_
    refine tri_seq ?_
    refine tri_region ?_
    refine o_loadBV agg23 sz23 (by first | exact Nth.z | exact .s .z | exact .s (.s .z) | exact .s (.s (.s .z)) | exact .s (.s (.s (.s .z))) | exact .s (.s (.s (.s (.s .z)))) | exact .s (.s (.s (.s (.s (.s .z))))) | exact .s (.s (.s (.s (.s (.s (.s .z))))))) rfl rfl ?_
    refine o_loadBV agg23 sz23 (by first | exact Nth.z | exact .s .z | exact .s (.s .z) | exact .s (.s (.s .z)) | exact .s (.s (.s (.s .z))) | exact .s (.s (.s (.s (.s .z)))) | exact .s (.s (.s (.s (.s (.s .z))))) | exact .s (.s (.s (.s (.s (.s (.s .z))))))) rfl rfl ?_
    refine o_callP (first := []) (cap := []) rfl rfl rfl Tryd.call48 (fun w1 h1 => reckonedK a b divG 53 w1 fa fb Tryd.call53 (fun z1 z2 z3 w2 => divF1 _ _ w2 (nIn fa) (nIn fb) (fun z4 => by omega))) ?_
    refine o_extract rfl rfl rfl ?_
    refine o_extract rfl rfl rfl ?_
    refine o_storeBV sz23 (by first | exact Nth.z | exact .s .z | exact .s (.s .z) | exact .s (.s (.s .z)) | exact .s (.s (.s (.s .z))) | exact .s (.s (.s (.s (.s .z)))) | exact .s (.s (.s (.s (.s (.s .z))))) | exact .s (.s (.s (.s (.s (.s (.s .z))))))) rfl rfl rfl ?_
    refine o_assign rfl rfl ?_
    refine triL_nil ?_
    refine thenQ_normal ?_
    refine tri_ret ?_
    refine endC2 rfl agg23 sz23 (by first | exact Nth.z | exact .s .z | exact .s (.s .z) | exact .s (.s (.s .z)) | exact .s (.s (.s (.s .z))) | exact .s (.s (.s (.s (.s .z)))) | exact .s (.s (.s (.s (.s (.s .z))))) | exact .s (.s (.s (.s (.s (.s (.s .z))))))) rfl rfl rfl ?_
    exact fun w1 hw1 => ⟨by have e : reckZ divF a b = reck divG a b := (by rw [reckZ, if_neg (by omega)]; exact (reck_congr (divG_same _ _)).symm); rw [e], hw1.chg⟩

theorem modK (a b : Val) (w : World) (fa : fit a) (fb : fit b) : Calls Tryd.prog 22 #[aggV a, aggV b] w (Pure w (resV (reckZ modF a b))) := by
  refine calls_tri (args := [aggV a, aggV b]) (lent := []) (H := []) Tryd.func22 rfl Tryd.ntmps22 rfl (Sat.start _ _ _ _) ?_
  refine (show Tri _ [(0, _), (1, _)] _ _ _ from ?_)
  have fab : ∀ v ∈ [a, b], fit v := fun v hv => by rcases List.mem_cons.1 hv with rfl | hv; exact fa; obtain rfl := List.mem_singleton.1 hv; exact fb
  refine tri_seq ?_
  refine tri_region ?_
  refine o_box (Val.cs _) rfl rfl rfl (fun b2 => ?_)
  refine o_box (Val.cs _) rfl rfl rfl (fun b3 => ?_)
  refine o_alloc (Val.cs Val.zero) rfl zero23 rfl (fun b4 => ?_)
  refine o_assign rfl rfl ?_
  refine triL_nil ?_
  refine thenQ_normal ?_
  refine tri_seq ?_
  refine tri_seq ?_
  refine tri_region ?_
  refine o_loadBV agg23 sz23 (by first | exact Nth.z | exact .s .z | exact .s (.s .z) | exact .s (.s (.s .z)) | exact .s (.s (.s (.s .z))) | exact .s (.s (.s (.s (.s .z)))) | exact .s (.s (.s (.s (.s (.s .z))))) | exact .s (.s (.s (.s (.s (.s (.s .z))))))) rfl rfl ?_
  refine o_loadBV agg23 sz23 (by first | exact Nth.z | exact .s .z | exact .s (.s .z) | exact .s (.s (.s .z)) | exact .s (.s (.s (.s .z))) | exact .s (.s (.s (.s (.s .z)))) | exact .s (.s (.s (.s (.s (.s .z))))) | exact .s (.s (.s (.s (.s (.s (.s .z))))))) rfl rfl ?_
  refine o_lit (parts := [_, _]) (valsV [a, b]) Tryd.underlying35 zs23 rfl rfl rfl rfl (by decide) (by decide) (fun b8 => ?_)
  refine o_callP (first := []) (cap := []) rfl rfl rfl Tryd.call52 (fun w1 h1 => allK 1 _ 2 2 [a, b] w1 (h1.rd (RdS.row .z)) rfl (by omega) fab) ?_
  refine o_eqlI rfl rfl rfl ?_
  refine o_move rfl rfl ?_
  refine' triL_and [_, _, _] [(4, _), (3, _), (2, _)] (dj := 11) (dr := 14) rfl rfl (fun g1 => ?_) ⟨_, rfl, rfl, rfl, (.cons rfl (.cons rfl (.cons rfl (.nil _))))⟩ rfl ?_
  rotate_left
  · skip
    have g1 := of_decide_eq_true g1
    refine o_field fo23_0 rfl rfl ?_
    refine o_load agg3 (by first | exact Nth.z | exact .s .z | exact .s (.s .z) | exact .s (.s (.s .z)) | exact .s (.s (.s (.s .z))) | exact .s (.s (.s (.s (.s .z)))) | exact .s (.s (.s (.s (.s (.s .z))))) | exact .s (.s (.s (.s (.s (.s (.s .z))))))) rfl rfl rfl ?_
    refine o_neqI rfl rfl rfl ?_
    exact triL_nil (Piece.mk rfl rfl (.cons rfl (.cons rfl (.cons rfl (.nil _)))) (fun _ h => h))
  refine o_move rfl rfl ?_
  refine' triL_and [_, _, _] [(4, _), (3, _), (2, _)] (dj := 16) (dr := 19) rfl rfl (fun g2 => ?_) ⟨_, rfl, rfl, rfl, (.cons rfl (.cons rfl (.cons rfl (.nil _))))⟩ rfl ?_
  rotate_left
  · skip
    refine o_field fo23_0 rfl rfl ?_
    refine o_load agg3 (by first | exact Nth.z | exact .s .z | exact .s (.s .z) | exact .s (.s (.s .z)) | exact .s (.s (.s (.s .z))) | exact .s (.s (.s (.s (.s .z)))) | exact .s (.s (.s (.s (.s (.s .z))))) | exact .s (.s (.s (.s (.s (.s (.s .z))))))) rfl rfl rfl ?_
    refine o_neqI rfl rfl rfl ?_
    exact triL_nil (Piece.mk rfl rfl (.cons rfl (.cons rfl (.cons rfl (.nil _)))) (fun _ h => h))
  refine o_move rfl rfl ?_
  refine' triL_and [_, _, _] [(4, _), (3, _), (2, _)] (dj := 21) (dr := 24) rfl rfl (fun g3 => ?_) ⟨_, rfl, rfl, rfl, (.cons rfl (.cons rfl (.cons rfl (.nil _))))⟩ rfl ?_
  rotate_left
  · skip
    refine o_field fo23_1 rfl rfl ?_
    refine o_load agg2 (by first | exact Nth.z | exact .s .z | exact .s (.s .z) | exact .s (.s (.s .z)) | exact .s (.s (.s (.s .z))) | exact .s (.s (.s (.s (.s .z)))) | exact .s (.s (.s (.s (.s (.s .z))))) | exact .s (.s (.s (.s (.s (.s (.s .z))))))) rfl rfl rfl ?_
    refine o_eqlI rfl rfl rfl ?_
    exact triL_nil (Piece.mk rfl rfl (.cons rfl (.cons rfl (.cons rfl (.nil _)))) (fun _ h => h))
  refine triL_nil ?_
  refine thenQ_normal ?_
  refine tri_cond rfl (fun h2 => ?_) (fun h2 => ?_)
  · skip
    simp only [Bool.and_eq_true, decide_eq_true_eq] at h2
    refine tri_seq ?_
    refine tri_region ?_
    refine o_build bval23 rfl rfl ?_
    refine o_storeBV sz23 (by first | exact Nth.z | exact .s .z | exact .s (.s .z) | exact .s (.s (.s .z)) | exact .s (.s (.s (.s .z))) | exact .s (.s (.s (.s (.s .z)))) | exact .s (.s (.s (.s (.s (.s .z))))) | exact .s (.s (.s (.s (.s (.s (.s .z))))))) rfl rfl rfl ?_
    refine o_assign rfl rfl ?_
    refine triL_nil ?_
    refine thenQ_normal ?_
    refine tri_ret ?_
    refine thenQ_ret ?_
    refine endC2 rfl agg23 sz23 (by first | exact Nth.z | exact .s .z | exact .s (.s .z) | exact .s (.s (.s .z)) | exact .s (.s (.s (.s .z))) | exact .s (.s (.s (.s (.s .z)))) | exact .s (.s (.s (.s (.s (.s .z))))) | exact .s (.s (.s (.s (.s (.s (.s .z))))))) rfl rfl rfl ?_
    exact fun w1 hw1 => ⟨by have e : reckZ modF a b = (Val.zero, 32) := (by rw [reckZ, if_pos (by omega)]); rw [e] <;> rfl, hw1.chg⟩
  · skip
    simp only [Bool.and_eq_false_iff, decide_eq_false_iff_not] at h2
    refine tri_skip ?_
    refine thenQ_normal ?_
    refine tri_seq ?_
    refine tri_region ?_
    refine o_loadBV agg23 sz23 (by first | exact Nth.z | exact .s .z | exact .s (.s .z) | exact .s (.s (.s .z)) | exact .s (.s (.s (.s .z))) | exact .s (.s (.s (.s (.s .z)))) | exact .s (.s (.s (.s (.s (.s .z))))) | exact .s (.s (.s (.s (.s (.s (.s .z))))))) rfl rfl ?_
    refine o_loadBV agg23 sz23 (by first | exact Nth.z | exact .s .z | exact .s (.s .z) | exact .s (.s (.s .z)) | exact .s (.s (.s (.s .z))) | exact .s (.s (.s (.s (.s .z)))) | exact .s (.s (.s (.s (.s (.s .z))))) | exact .s (.s (.s (.s (.s (.s (.s .z))))))) rfl rfl ?_
    refine o_callP (first := []) (cap := []) rfl rfl rfl Tryd.call48 (fun w1 h1 => reckonedK a b modF 54 w1 fa fb Tryd.call54 (fun z1 z2 z3 w2 => modF1 _ _ w2 (nIn fa) (nIn fb) (fun z4 => by omega))) ?_
    refine o_extract rfl rfl rfl ?_
    refine o_extract rfl rfl rfl ?_
    refine o_storeBV sz23 (by first | exact Nth.z | exact .s .z | exact .s (.s .z) | exact .s (.s (.s .z)) | exact .s (.s (.s (.s .z))) | exact .s (.s (.s (.s (.s .z)))) | exact .s (.s (.s (.s (.s (.s .z))))) | exact .s (.s (.s (.s (.s (.s (.s .z))))))) rfl rfl rfl ?_
    refine o_assign rfl rfl ?_
    refine triL_nil ?_
    refine thenQ_normal ?_
    refine tri_ret ?_
    refine endC2 rfl agg23 sz23 (by first | exact Nth.z | exact .s .z | exact .s (.s .z) | exact .s (.s (.s .z)) | exact .s (.s (.s (.s .z))) | exact .s (.s (.s (.s (.s .z)))) | exact .s (.s (.s (.s (.s (.s .z))))) | exact .s (.s (.s (.s (.s (.s (.s .z))))))) rfl rfl rfl ?_
    exact fun w1 hw1 => ⟨by have e : reckZ modF a b = reck modF a b := (by rw [reckZ, if_neg (by omega)]); rw [e], hw1.chg⟩

theorem negK (a : Val) (w : World) (fa : fit a) : Calls Tryd.prog 37 #[aggV a] w (Pure w (resV (reck subF (numV 0) a))) := by
  refine calls_tri (args := [aggV a]) (lent := []) (H := []) Tryd.func37 rfl Tryd.ntmps37 rfl (Sat.start _ _ _ _) ?_
  refine (show Tri _ [(0, _)] _ _ _ from ?_)
  have f0 : fit (numV 0) := ⟨⟨⟨by decide, by decide⟩, ⟨by decide, by decide⟩⟩, by decide⟩
  refine tri_seq ?_
  refine tri_region ?_
  refine o_box (Val.cs _) rfl rfl rfl (fun b1 => ?_)
  refine o_alloc (Val.cs Val.zero) rfl zero23 rfl (fun b2 => ?_)
  refine o_assign rfl rfl ?_
  refine triL_nil ?_
  refine thenQ_normal ?_
  refine tri_seq ?_
  refine tri_region ?_
  refine o_build (bval23_0 _) rfl rfl ?_
  refine o_loadBV agg23 sz23 (by first | exact Nth.z | exact .s .z | exact .s (.s .z) | exact .s (.s (.s .z)) | exact .s (.s (.s (.s .z))) | exact .s (.s (.s (.s (.s .z)))) | exact .s (.s (.s (.s (.s (.s .z))))) | exact .s (.s (.s (.s (.s (.s (.s .z))))))) rfl rfl ?_
  refine o_callP (first := []) (cap := []) rfl rfl rfl Tryd.call48 (fun w1 h1 => reckonedK (numV 0) a subF 68 w1 f0 fa Tryd.call68 (fun _ _ _ w2 => negF1 _ _ w2 rfl (nIn fa))) ?_
  refine o_extract rfl rfl rfl ?_
  refine o_extract rfl rfl rfl ?_
  refine o_storeBV sz23 (by first | exact Nth.z | exact .s .z | exact .s (.s .z) | exact .s (.s (.s .z)) | exact .s (.s (.s (.s .z))) | exact .s (.s (.s (.s (.s .z)))) | exact .s (.s (.s (.s (.s (.s .z))))) | exact .s (.s (.s (.s (.s (.s (.s .z))))))) rfl rfl rfl ?_
  refine o_assign rfl rfl ?_
  refine triL_nil ?_
  refine thenQ_normal ?_
  refine tri_ret ?_
  refine endC2 rfl agg23 sz23 (by first | exact Nth.z | exact .s .z | exact .s (.s .z) | exact .s (.s (.s .z)) | exact .s (.s (.s (.s .z))) | exact .s (.s (.s (.s (.s .z)))) | exact .s (.s (.s (.s (.s (.s .z))))) | exact .s (.s (.s (.s (.s (.s (.s .z))))))) rfl rfl rfl ?_
  exact fin_pure

theorem joinK (a b : Val) (w : World) (fa : fit a) (fb : fit b) : Calls Tryd.prog 39 #[aggV a, aggV b] w (Pure w (resV (joinV a b))) := by
  refine calls_tri (args := [aggV a, aggV b]) (lent := []) (H := []) Tryd.func39 rfl Tryd.ntmps39 rfl (Sat.start _ _ _ _) ?_
  refine (show Tri _ [(0, _), (1, _)] _ _ _ from ?_)
  have fab : ∀ v ∈ [a, b], fit v := fun v hv => by rcases List.mem_cons.1 hv with rfl | hv; exact fa; obtain rfl := List.mem_singleton.1 hv; exact fb
  have la := fa.2
  have lb := fb.2
  refine tri_seq ?_
  refine tri_region ?_
  refine o_box (Val.cs _) rfl rfl rfl (fun b2 => ?_)
  refine o_box (Val.cs _) rfl rfl rfl (fun b3 => ?_)
  refine o_alloc (Val.cs Val.zero) rfl zero23 rfl (fun b4 => ?_)
  refine o_assign rfl rfl ?_
  refine triL_nil ?_
  refine thenQ_normal ?_
  refine tri_seq ?_
  refine tri_seq ?_
  refine tri_region ?_
  refine o_loadBV agg23 sz23 (by first | exact Nth.z | exact .s .z | exact .s (.s .z) | exact .s (.s (.s .z)) | exact .s (.s (.s (.s .z))) | exact .s (.s (.s (.s (.s .z)))) | exact .s (.s (.s (.s (.s (.s .z))))) | exact .s (.s (.s (.s (.s (.s (.s .z))))))) rfl rfl ?_
  refine o_loadBV agg23 sz23 (by first | exact Nth.z | exact .s .z | exact .s (.s .z) | exact .s (.s (.s .z)) | exact .s (.s (.s (.s .z))) | exact .s (.s (.s (.s (.s .z)))) | exact .s (.s (.s (.s (.s (.s .z))))) | exact .s (.s (.s (.s (.s (.s (.s .z))))))) rfl rfl ?_
  refine o_lit (parts := [_, _]) (valsV [a, b]) Tryd.underlying35 zs23 rfl rfl rfl rfl (by decide) (by decide) (fun b9 => ?_)
  refine o_callP (first := []) (cap := []) rfl rfl rfl Tryd.call52 (fun w1 h1 => allK 2 _ 2 2 [a, b] w1 (h1.rd (RdS.row .z)) rfl (by omega) fab) ?_
  refine o_assign rfl rfl ?_
  refine triL_nil ?_
  refine thenQ_normal ?_
  refine tri_seq ?_
  refine tri_slots [(6, _), (4, _), (3, _), (2, _)] (.cons rfl (.cons rfl (.cons rfl (.cons rfl (.nil _))))) ?_
  refine tri_region ?_
  refine o_move rfl rfl ?_
  refine o_neqI rfl rfl rfl ?_
  refine o_move rfl rfl ?_
  refine' triL_or [_, _, _] [(6, _), (4, _), (3, _), (2, _)] (dj := 13) (dr := 16) rfl rfl (fun g1 => ?_) ⟨_, rfl, rfl, rfl, (.cons rfl (.cons rfl (.cons rfl (.cons rfl (.nil _)))))⟩ rfl ?_
  rotate_left
  · skip
    have g1 := of_decide_eq_false g1
    refine o_field fo23_0 rfl rfl ?_
    refine o_load agg3 (by first | exact Nth.z | exact .s .z | exact .s (.s .z) | exact .s (.s (.s .z)) | exact .s (.s (.s (.s .z))) | exact .s (.s (.s (.s (.s .z)))) | exact .s (.s (.s (.s (.s (.s .z))))) | exact .s (.s (.s (.s (.s (.s (.s .z))))))) rfl rfl rfl ?_
    refine o_eqlI rfl rfl rfl ?_
    exact triL_nil (Piece.mk rfl rfl (.cons rfl (.cons rfl (.cons rfl (.cons rfl (.nil _))))) (fun _ h => h))
  refine o_move rfl rfl ?_
  refine' triL_or [_, _, _] [(6, _), (4, _), (3, _), (2, _)] (dj := 18) (dr := 21) rfl rfl (fun g2 => ?_) ⟨_, rfl, rfl, rfl, (.cons rfl (.cons rfl (.cons rfl (.cons rfl (.nil _)))))⟩ rfl ?_
  rotate_left
  · skip
    refine o_field fo23_0 rfl rfl ?_
    refine o_load agg3 (by first | exact Nth.z | exact .s .z | exact .s (.s .z) | exact .s (.s (.s .z)) | exact .s (.s (.s (.s .z))) | exact .s (.s (.s (.s (.s .z)))) | exact .s (.s (.s (.s (.s (.s .z))))) | exact .s (.s (.s (.s (.s (.s (.s .z))))))) rfl rfl rfl ?_
    refine o_eqlI rfl rfl rfl ?_
    exact triL_nil (Piece.mk rfl rfl (.cons rfl (.cons rfl (.cons rfl (.cons rfl (.nil _))))) (fun _ h => h))
  refine triL_nil ?_
  refine thenQ_normal ?_
  refine tri_cond rfl (fun h2 => ?_) (fun h2 => ?_)
  · skip
    simp only [Bool.or_eq_true, decide_eq_true_eq] at h2
    refine tri_seq ?_
    refine tri_region ?_
    refine o_build bval23 rfl rfl ?_
    refine o_move rfl rfl ?_
    refine o_storeBV sz23 (by first | exact Nth.z | exact .s .z | exact .s (.s .z) | exact .s (.s (.s .z)) | exact .s (.s (.s (.s .z))) | exact .s (.s (.s (.s (.s .z)))) | exact .s (.s (.s (.s (.s (.s .z))))) | exact .s (.s (.s (.s (.s (.s (.s .z))))))) rfl rfl rfl ?_
    refine o_assign rfl rfl ?_
    refine triL_nil ?_
    refine thenQ_normal ?_
    refine tri_ret ?_
    refine thenQ_ret ?_
    refine endC2 rfl agg23 sz23 (by first | exact Nth.z | exact .s .z | exact .s (.s .z) | exact .s (.s (.s .z)) | exact .s (.s (.s (.s .z))) | exact .s (.s (.s (.s (.s .z)))) | exact .s (.s (.s (.s (.s (.s .z))))) | exact .s (.s (.s (.s (.s (.s (.s .z))))))) rfl rfl rfl ?_
    exact fun w1 hw1 => ⟨by have e : joinV a b = (Val.zero, allE 2 [a, b]) := (by rw [joinV, if_pos (by omega)]); rw [e] <;> rfl, hw1.chg⟩
  · skip
    simp only [Bool.or_eq_false_iff, decide_eq_false_iff_not] at h2
    have e1 : allE 2 [a, b] = 0 := Decidable.not_not.1 h2.1.1
    refine tri_skip ?_
    refine thenQ_normal ?_
    refine tri_seq ?_
    refine tri_seq ?_
    refine tri_region ?_
    refine o_field fo23_2 rfl rfl ?_
    refine o_load agg9 (by first | exact Nth.z | exact .s .z | exact .s (.s .z) | exact .s (.s (.s .z)) | exact .s (.s (.s (.s .z))) | exact .s (.s (.s (.s (.s .z)))) | exact .s (.s (.s (.s (.s (.s .z))))) | exact .s (.s (.s (.s (.s (.s (.s .z))))))) rfl rfl rfl ?_
    refine o_lenB Tryd.underlying9 rfl rfl ?_
    refine o_field fo23_2 rfl rfl ?_
    refine o_load agg9 (by first | exact Nth.z | exact .s .z | exact .s (.s .z) | exact .s (.s (.s .z)) | exact .s (.s (.s (.s .z))) | exact .s (.s (.s (.s (.s .z)))) | exact .s (.s (.s (.s (.s (.s .z))))) | exact .s (.s (.s (.s (.s (.s (.s .z))))))) rfl rfl rfl ?_
    refine o_lenB Tryd.underlying9 rfl rfl ?_
    refine o_addN rfl rfl rfl (by omega) ?_
    refine o_gtr rfl rfl rfl ?_
    refine triL_nil ?_
    refine thenQ_normal ?_
    refine tri_if rfl (fun h3 => ?_) (fun h3 => ?_)
    · skip
      refine tri_seq ?_
      refine tri_slots [(4, _)] (.cons rfl (.nil _)) ?_
      refine tri_region ?_
      refine o_build bval23 rfl rfl ?_
      refine o_storeBV sz23 (by first | exact Nth.z | exact .s .z | exact .s (.s .z) | exact .s (.s (.s .z)) | exact .s (.s (.s (.s .z))) | exact .s (.s (.s (.s (.s .z)))) | exact .s (.s (.s (.s (.s (.s .z))))) | exact .s (.s (.s (.s (.s (.s (.s .z))))))) rfl rfl rfl ?_
      refine o_assign rfl rfl ?_
      refine triL_nil ?_
      refine thenQ_normal ?_
      refine tri_ret ?_
      refine thenQ_ret ?_
      refine endC2 rfl agg23 sz23 (by first | exact Nth.z | exact .s .z | exact .s (.s .z) | exact .s (.s (.s .z)) | exact .s (.s (.s (.s .z))) | exact .s (.s (.s (.s (.s .z)))) | exact .s (.s (.s (.s (.s (.s .z))))) | exact .s (.s (.s (.s (.s (.s (.s .z))))))) rfl rfl rfl ?_
      exact fun w1 hw1 => ⟨by have e : joinV a b = (Val.zero, 3) := (by rw [joinV, if_neg (by omega), if_pos (by omega)]); rw [e] <;> rfl, hw1.chg⟩
    · skip
      refine tri_skip ?_
      refine thenQ_normal ?_
      refine tri_seq ?_
      refine tri_slots [(4, _), (3, _), (2, _)] (.cons rfl (.cons rfl (.cons rfl (.nil _)))) ?_
      refine tri_region ?_
      refine o_field fo23_2 rfl rfl ?_
      refine o_load agg9 (by first | exact Nth.z | exact .s .z | exact .s (.s .z) | exact .s (.s (.s .z)) | exact .s (.s (.s (.s .z))) | exact .s (.s (.s (.s (.s .z)))) | exact .s (.s (.s (.s (.s (.s .z))))) | exact .s (.s (.s (.s (.s (.s (.s .z))))))) rfl rfl rfl ?_
      refine o_field fo23_2 rfl rfl ?_
      refine o_load agg9 (by first | exact Nth.z | exact .s .z | exact .s (.s .z) | exact .s (.s (.s .z)) | exact .s (.s (.s (.s .z))) | exact .s (.s (.s (.s (.s .z)))) | exact .s (.s (.s (.s (.s (.s .z))))) | exact .s (.s (.s (.s (.s (.s (.s .z))))))) rfl rfl rfl ?_
      refine o_cat rfl rfl rfl (by omega) ?_
      refine o_build (bval23_0_2 _ _) rfl rfl ?_
      refine o_storeBV sz23 (by first | exact Nth.z | exact .s .z | exact .s (.s .z) | exact .s (.s (.s .z)) | exact .s (.s (.s (.s .z))) | exact .s (.s (.s (.s (.s .z)))) | exact .s (.s (.s (.s (.s (.s .z))))) | exact .s (.s (.s (.s (.s (.s (.s .z))))))) rfl rfl rfl ?_
      refine o_assign rfl rfl ?_
      refine triL_nil ?_
      refine thenQ_normal ?_
      refine tri_ret ?_
      refine endC2 rfl agg23 sz23 (by first | exact Nth.z | exact .s .z | exact .s (.s .z) | exact .s (.s (.s .z)) | exact .s (.s (.s (.s .z))) | exact .s (.s (.s (.s (.s .z)))) | exact .s (.s (.s (.s (.s (.s .z))))) | exact .s (.s (.s (.s (.s (.s (.s .z))))))) rfl rfl rfl ?_
      exact fun w1 hw1 => ⟨by have e : joinV a b = (⟨2, 0, a.s ++ b.s⟩, 0) := (by rw [joinV, if_neg (by omega), if_neg (by omega)]); rw [e] <;> rfl, hw1.chg⟩

end Go.Proofs.YtgogkkkacpacgaaDoor
