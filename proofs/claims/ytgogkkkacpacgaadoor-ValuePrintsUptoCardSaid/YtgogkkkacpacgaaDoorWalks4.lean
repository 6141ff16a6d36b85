/- the document's functions, walked: numbers -/
import Derived.Test.YtgogkkkacpacgaaDoorWalks3
namespace Go.Proofs.YtgogkkkacpacgaaDoor
open Go.WK Go.RowKit 



theorem sizeR (n : Int) (w : World) (h : inR n = true) : Calls Tryd.prog 78 #[.int .i64 n] w (Pure w (.int .u64 ((n.natAbs : Nat) : Int))) := by
  refine calls_tri (args := [.int .i64 n]) (lent := []) (H := []) Tryd.func78 rfl Tryd.ntmps78 rfl (Sat.start _ _ _ _) ?_
  refine (show Tri _ [(0, _)] _ _ _ from ?_)
  obtain ⟨n1, n2⟩ := inR_iff.1 h
  refine tri_seq ?_
  refine tri_region ?_
  refine o_assign rfl rfl ?_
  refine triL_nil ?_
  refine thenQ_normal ?_
  refine tri_seq ?_
  refine tri_seq ?_
  refine tri_region ?_
  refine o_move rfl rfl ?_
  refine o_lss rfl rfl rfl ?_
  refine triL_nil ?_
  refine thenQ_normal ?_
  refine tri_if rfl (fun h1 => ?_) (fun h1 => ?_)
  · skip
    refine tri_seq ?_
    refine tri_region ?_
    refine o_move rfl rfl ?_
    refine o_conv rfl rfl Tryd.underlying2 Tryd.underlying67 ?_
    refine o_negI rfl rfl ?_
    refine o_assign rfl rfl ?_
    refine triL_nil ?_
    refine thenQ_normal ?_
    refine tri_ret ?_
    refine thenQ_ret ?_
    refine end1 rfl rfl ?_
    exact fun w1 hw1 => ⟨congrArg (fun b : Int => Ending.returned (.int .u64 b)) (by simp only [IntKind.wrap_u64]; omega), hw1.chg⟩
  · skip
    refine tri_skip ?_
    refine thenQ_normal ?_
    refine tri_seq ?_
    refine tri_region ?_
    refine o_move rfl rfl ?_
    refine o_conv rfl rfl Tryd.underlying2 Tryd.underlying67 ?_
    refine o_assign rfl rfl ?_
    refine triL_nil ?_
    refine thenQ_normal ?_
    refine tri_ret ?_
    refine end1 rfl rfl ?_
    exact fun w1 hw1 => ⟨congrArg (fun b : Int => Ending.returned (.int .u64 b)) (by simp only [IntKind.wrap_u64]; omega), hw1.chg⟩

theorem sg_true {u : Nat} (hu : u < 18446744073709551616) : sgF u true = (IntKind.i64.wrap (IntKind.u64.wrap (0 - (u : Int))), decide ((u : Int) ≤ 9223372036854775808)) := by
  refine Prod.ext ?_ ?_
  · show IntKind.i64.wrap (-(u : Int)) = IntKind.i64.wrap (IntKind.u64.wrap (0 - (u : Int)))
    rw [IntKind.wrap_i64, IntKind.wrap_i64, IntKind.wrap_u64]; omega
  · show decide (u ≤ 9223372036854775808) = decide ((u : Int) ≤ 9223372036854775808)
    exact decide_eq_decide.2 (by omega)
theorem sg_false (u : Nat) : sgF u false = (IntKind.i64.wrap (u : Int), decide ((u : Int) < 9223372036854775808)) := by
  have e : decide ((u : Int) < 9223372036854775808) = decide (u < 9223372036854775808) := decide_eq_decide.2 (by omega)
  rw [e]
  unfold sgF
  exact if_neg (by decide)

theorem signedR (u : Nat) (b : Bool) (w : World) (hu : u < 18446744073709551616) : Calls Tryd.prog 81 #[.int .u64 (u : Int), .bool b] w (Pure w (resF (sgF u b))) := by
  refine calls_tri (args := [.int .u64 (u : Int), .bool b]) (lent := []) (H := []) Tryd.func81 rfl Tryd.ntmps81 rfl (Sat.start _ _ _ _) ?_
  refine (show Tri _ [(0, _), (1, _)] _ _ _ from ?_)
  refine tri_seq ?_
  refine tri_region ?_
  refine o_assign rfl rfl ?_
  refine o_assign rfl rfl ?_
  refine triL_nil ?_
  refine thenQ_normal ?_
  refine tri_seq ?_
  refine tri_seq ?_
  refine tri_region ?_
  refine o_move rfl rfl ?_
  refine triL_nil ?_
  refine thenQ_normal ?_
  refine tri_cond rfl (fun h1 => ?_) (fun h1 => ?_)
  · skip
    subst h1
    refine tri_seq ?_
    refine tri_slots [(0, _)] (.cons rfl (.nil _)) ?_
    refine tri_region ?_
    refine o_move rfl rfl ?_
    refine o_negI rfl rfl ?_
    refine o_conv rfl rfl Tryd.underlying67 Tryd.underlying2 ?_
    refine o_move rfl rfl ?_
    refine o_leq rfl rfl rfl ?_
    refine o_assign rfl rfl ?_
    refine o_assign rfl rfl ?_
    refine triL_nil ?_
    refine thenQ_normal ?_
    refine tri_ret ?_
    refine thenQ_ret ?_
    refine end2 rfl rfl rfl ?_
    exact fun w1 hw1 => ⟨by have e : sgF u true = (IntKind.i64.wrap (IntKind.u64.wrap (0 - (u : Int))), decide ((u : Int) ≤ 9223372036854775808)) := (by exact sg_true hu); rw [e] <;> rfl, hw1.chg⟩
  · skip
    subst h1
    refine tri_skip ?_
    refine thenQ_normal ?_
    refine tri_seq ?_
    refine tri_slots [(0, _)] (.cons rfl (.nil _)) ?_
    refine tri_region ?_
    refine o_move rfl rfl ?_
    refine o_conv rfl rfl Tryd.underlying67 Tryd.underlying2 ?_
    refine o_move rfl rfl ?_
    refine o_lss rfl rfl rfl ?_
    refine o_assign rfl rfl ?_
    refine o_assign rfl rfl ?_
    refine triL_nil ?_
    refine thenQ_normal ?_
    refine tri_ret ?_
    refine end2 rfl rfl rfl ?_
    exact fun w1 hw1 => ⟨by have e : sgF u false = (IntKind.i64.wrap (u : Int), decide ((u : Int) < 9223372036854775808)) := (by exact sg_false u); rw [e] <;> rfl, hw1.chg⟩

theorem summedR (x y : Int) (w : World) (hx : inR x = true) (hy : inR y = true) : Calls Tryd.prog 79 #[.int .i64 x, .int .i64 y] w (Pure w (resF (sumF x y))) := by
  refine calls_tri (args := [.int .i64 x, .int .i64 y]) (lent := []) (H := []) Tryd.func79 rfl Tryd.ntmps79 rfl (Sat.start _ _ _ _) ?_
  refine (show Tri _ [(0, _), (1, _)] _ _ _ from ?_)
  obtain ⟨x1, x2⟩ := inR_iff.1 hx
  obtain ⟨y1, y2⟩ := inR_iff.1 hy
  refine tri_seq ?_
  refine tri_region ?_
  refine o_assign rfl rfl ?_
  refine o_assign rfl rfl ?_
  refine triL_nil ?_
  refine thenQ_normal ?_
  refine tri_seq ?_
  refine tri_seq ?_
  refine tri_region ?_
  refine o_move rfl rfl ?_
  refine o_gtr rfl rfl rfl ?_
  refine o_move rfl rfl ?_
  refine' triL_and [_, _, _, _] [(0, _), (1, _)] (dj := 8) (dr := 12) rfl rfl (fun g1 => ?_) ⟨_, rfl, rfl, rfl, (.cons rfl (.cons rfl (.nil _)))⟩ rfl ?_
  rotate_left
  · skip
    have g1 := of_decide_eq_true g1
    refine o_move rfl rfl ?_
    refine o_move rfl rfl ?_
    refine o_subN rfl rfl rfl (by omega) ?_
    refine o_gtr rfl rfl rfl ?_
    exact triL_nil (Piece.mk rfl rfl (.cons rfl (.cons rfl (.nil _))) (fun _ h => h))
  refine o_move rfl rfl ?_
  refine' triL_or [_, _, _, _, _, _, _, _] [(0, _), (1, _)] (dj := 14) (dr := 22) rfl rfl (fun g2 => ?_) ⟨_, rfl, rfl, rfl, (.cons rfl (.cons rfl (.nil _)))⟩ rfl ?_
  rotate_left
  · skip
    refine o_move rfl rfl ?_
    refine o_lss rfl rfl rfl ?_
    refine o_move rfl rfl ?_
    refine' triL_and [_, _, _, _] [(14, _), (0, _), (1, _)] (dj := 17) (dr := 21) rfl rfl (fun g3 => ?_) ⟨_, rfl, rfl, rfl, (.cons rfl (.cons rfl (.cons rfl (.nil _))))⟩ rfl ?_
    rotate_left
    · skip
      have g3 := of_decide_eq_true g3
      refine o_move rfl rfl ?_
      refine o_move rfl rfl ?_
      refine o_subN rfl rfl rfl (by omega) ?_
      refine o_lss rfl rfl rfl ?_
      exact triL_nil (Piece.mk rfl rfl (.cons rfl (.cons rfl (.cons rfl (.nil _)))) (fun _ h => h))
    exact triL_nil (Piece.mk rfl rfl (.cons rfl (.cons rfl (.nil _))) (fun _ h => h))
  refine triL_nil ?_
  refine thenQ_normal ?_
  refine tri_cond rfl (fun h0 => ?_) (fun h0 => ?_)
  · skip
    simp only [Bool.or_eq_true, Bool.and_eq_true, decide_eq_true_eq] at h0
    refine tri_seq ?_
    refine tri_region ?_
    refine o_assign rfl rfl ?_
    refine o_assign rfl rfl ?_
    refine triL_nil ?_
    refine thenQ_normal ?_
    refine tri_ret ?_
    refine thenQ_ret ?_
    refine end2 rfl rfl rfl ?_
    exact fun w1 hw1 => ⟨by have e : sumF x y = (0, false) := (by rw [sumF, if_pos h0]); rw [e] <;> rfl, hw1.chg⟩
  · skip
    have h0 : ¬ (0 < y ∧ 9223372036854775807 - y < x ∨ y < 0 ∧ x < -9223372036854775808 - y) := fun e => by rcases e with ⟨e1, e2⟩ | ⟨e1, e2⟩ <;> simp [e1, e2] at h0
    refine tri_skip ?_
    refine thenQ_normal ?_
    refine tri_seq ?_
    refine tri_region ?_
    refine o_move rfl rfl ?_
    refine o_move rfl rfl ?_
    refine o_addN rfl rfl rfl (by omega) ?_
    refine o_assign rfl rfl ?_
    refine o_assign rfl rfl ?_
    refine triL_nil ?_
    refine thenQ_normal ?_
    refine tri_ret ?_
    refine end2 rfl rfl rfl ?_
    exact fun w1 hw1 => ⟨by have e : sumF x y = (x + y, true) := (by rw [sumF, if_neg h0, wrap_of (inR_iff.2 (by omega))]); rw [e] <;> rfl, hw1.chg⟩

theorem gt0 (m : Nat) : decide ((0 : Int) < (m : Int)) = decide (0 < m) := decide_eq_decide.2 (by omega)
theorem eq0 (m : Nat) : decide ((m : Int) = 0) = decide (m = 0) := decide_eq_decide.2 (by omega)

theorem exactR (i : Int) (x y : Int) (w : World) (hi : 0 ≤ i ∧ i ≤ 4) (hx : inR x = true) (hy : inR y = true) (y0 : 2 < i → y ≠ 0) : Calls Tryd.prog 67 #[.int .i64 i, .int .i64 x, .int .i64 y] w (Pure w (resF (exF i x y))) := by
  refine calls_tri (args := [.int .i64 i, .int .i64 x, .int .i64 y]) (lent := []) (H := []) Tryd.func67 rfl Tryd.ntmps67 rfl (Sat.start _ _ _ _) ?_
  refine (show Tri _ [(0, _), (1, _), (2, _)] _ _ _ from ?_)
  obtain ⟨x1, x2⟩ := inR_iff.1 hx
  obtain ⟨y1, y2⟩ := inR_iff.1 hy
  refine tri_seq ?_
  refine tri_region ?_
  refine o_assign rfl rfl ?_
  refine o_assign rfl rfl ?_
  refine triL_nil ?_
  refine thenQ_normal ?_
  refine tri_seq ?_
  refine tri_region ?_
  refine o_move rfl rfl ?_
  refine o_callP (first := []) (cap := []) rfl rfl rfl Tryd.call78 (fun w1 h1 => sizeR x w1 hx) ?_
  refine o_move rfl rfl ?_
  refine o_callP (first := []) (cap := []) rfl rfl rfl Tryd.call78 (fun w1 h1 => sizeR y w1 hy) ?_
  refine o_assign rfl rfl ?_
  refine o_assign rfl rfl ?_
  refine triL_nil ?_
  refine thenQ_normal ?_
  refine tri_seq ?_
  refine tri_slots [(9, _), (8, _), (0, _), (1, _), (2, _)] (.cons rfl (.cons rfl (.cons rfl (.cons rfl (.cons rfl (.nil _)))))) ?_
  refine tri_region ?_
  refine o_move rfl rfl ?_
  refine o_lss rfl rfl rfl ?_
  refine o_move rfl rfl ?_
  refine o_lss rfl rfl rfl ?_
  refine o_neqB rfl Tryd.underlying4 rfl rfl ?_
  refine o_assign rfl rfl ?_
  refine triL_nil ?_
  refine thenQ_normal ?_
  refine tri_seq ?_
  refine tri_seq ?_
  refine tri_slots [(10, _), (9, _), (8, _), (0, _), (1, _), (2, _)] (.cons rfl (.cons rfl (.cons rfl (.cons rfl (.cons rfl (.cons rfl (.nil _))))))) ?_
  refine tri_region ?_
  refine o_move rfl rfl ?_
  refine triL_nil ?_
  refine thenQ_normal ?_
  refine tri_block ?_
  refine tri_seq ?_
  refine tri_region ?_
  refine o_eqlI rfl rfl rfl ?_
  refine o_assign rfl rfl ?_
  refine triL_nil ?_
  refine thenQ_normal ?_
  refine tri_if rfl (fun c0 => ?_) (fun c0 => ?_)
  · skip
    refine tri_seq ?_
    refine tri_slots [(1, _), (2, _)] (.cons rfl (.cons rfl (.nil _))) ?_
    refine tri_region ?_
    refine o_move rfl rfl ?_
    refine o_move rfl rfl ?_
    refine o_callP (first := []) (cap := []) rfl rfl rfl Tryd.call79 (fun w1 h1 => summedR x y w1 hx hy) ?_
    refine o_extract rfl rfl rfl ?_
    refine o_extract rfl rfl rfl ?_
    refine o_assign rfl rfl ?_
    refine o_assign rfl rfl ?_
    refine triL_nil ?_
    refine thenQ_normal ?_
    refine tri_ret ?_
    refine blockQ_ret ?_
    refine thenQ_ret ?_
    refine end2 rfl rfl rfl ?_
    exact fun w1 hw1 => ⟨by have e : exF i x y = sumF x y := (by rw [exF, if_pos c0]); rw [e], hw1.chg⟩
  · skip
    refine tri_seq ?_
    refine tri_region ?_
    refine o_eqlI rfl rfl rfl ?_
    refine o_assign rfl rfl ?_
    refine triL_nil ?_
    refine thenQ_normal ?_
    refine tri_if rfl (fun c1 => ?_) (fun c1 => ?_)
    · skip
      refine tri_seq ?_
      refine tri_seq ?_
      refine tri_slots [(1, _), (2, _)] (.cons rfl (.cons rfl (.nil _))) ?_
      refine tri_region ?_
      refine o_move rfl rfl ?_
      refine o_eqlI rfl rfl rfl ?_
      refine triL_nil ?_
      refine thenQ_normal ?_
      refine tri_if rfl (fun hl => ?_) (fun hl => ?_)
      · skip
        refine tri_seq ?_
        refine tri_region ?_
        refine o_move rfl rfl ?_
        refine o_conv rfl rfl Tryd.underlying2 Tryd.underlying67 ?_
        refine o_add rfl rfl rfl ?_
        refine o_conv rfl rfl Tryd.underlying67 Tryd.underlying2 ?_
        refine o_move rfl rfl ?_
        refine o_lss rfl rfl rfl ?_
        refine o_assign rfl rfl ?_
        refine o_assign rfl rfl ?_
        refine triL_nil ?_
        refine thenQ_normal ?_
        refine tri_ret ?_
        refine thenQ_ret ?_
        refine blockQ_ret ?_
        refine thenQ_ret ?_
        refine end2 rfl rfl rfl ?_
        exact fun w1 hw1 => ⟨by have e : exF i x y = (IntKind.i64.wrap (IntKind.u64.wrap (IntKind.u64.wrap x + 9223372036854775808)), decide (x < 0)) := (by rw [exF, if_neg c0, if_pos c1, if_pos hl]; exact Prod.ext (by simp only [IntKind.wrap_i64, IntKind.wrap_u64]; omega) rfl); rw [e] <;> rfl, hw1.chg⟩
      · skip
        refine tri_skip ?_
        refine thenQ_normal ?_
        refine tri_seq ?_
        refine tri_region ?_
        refine o_move rfl rfl ?_
        refine o_move rfl rfl ?_
        refine o_negI rfl rfl ?_
        refine triL_num (v' := .int .i64 (-y)) (congrArg (Value.int .i64) (by rw [IntKind.wrap_i64]; omega)) ?_
        refine o_callP (first := []) (cap := []) rfl rfl rfl Tryd.call79 (fun w1 h1 => summedR x (-y) w1 hx (inR_iff.2 (by omega))) ?_
        refine o_extract rfl rfl rfl ?_
        refine o_extract rfl rfl rfl ?_
        refine o_assign rfl rfl ?_
        refine o_assign rfl rfl ?_
        refine triL_nil ?_
        refine thenQ_normal ?_
        refine tri_ret ?_
        refine blockQ_ret ?_
        refine thenQ_ret ?_
        refine end2 rfl rfl rfl ?_
        exact fun w1 hw1 => ⟨by have e : exF i x y = sumF x (-y) := (by rw [exF, if_neg c0, if_pos c1, if_neg hl]); rw [e], hw1.chg⟩
    · skip
      refine tri_seq ?_
      refine tri_slots [(24, _), (10, _), (9, _), (8, _), (1, _)] (.cons rfl (.cons rfl (.cons rfl (.cons rfl (.cons rfl (.nil _)))))) ?_
      refine tri_region ?_
      refine o_eqlI rfl rfl rfl ?_
      refine o_assign rfl rfl ?_
      refine triL_nil ?_
      refine thenQ_normal ?_
      refine tri_if rfl (fun c2 => ?_) (fun c2 => ?_)
      · skip
        refine tri_seq ?_
        refine tri_slots [(10, _), (9, _), (8, _)] (.cons rfl (.cons rfl (.cons rfl (.nil _)))) ?_
        refine tri_region ?_
        refine o_move rfl rfl ?_
        refine o_move rfl rfl ?_
        refine o_callP (first := []) (cap := []) rfl rfl rfl Tryd.call80 (fun w1 h1 => lib_mul x.natAbs y.natAbs w1 (by omega) (by omega)) ?_
        refine o_move rfl rfl ?_
        refine o_extract rfl rfl rfl ?_
        refine o_extract rfl rfl rfl ?_
        refine o_assign rfl rfl ?_
        refine o_assign rfl rfl ?_
        refine triL_nil ?_
        refine thenQ_normal ?_
        refine tri_seq ?_
        refine tri_slots [(12, _), (11, _), (10, _)] (.cons rfl (.cons rfl (.cons rfl (.nil _)))) ?_
        refine tri_region ?_
        refine o_move rfl rfl ?_
        refine o_move rfl rfl ?_
        refine o_move rfl rfl ?_
        refine' triL_and [_, _] [(57, _), (11, _)] (dj := 59) (dr := 61) rfl rfl (fun g1 => ?_) ⟨_, rfl, rfl, rfl, (.cons rfl (.cons rfl (.nil _)))⟩ rfl ?_
        rotate_left
        · skip
          refine o_move rfl rfl ?_
          refine o_gtr rfl rfl rfl ?_
          exact triL_nil (Piece.mk rfl rfl (.cons rfl (.cons rfl (.nil _))) (fun _ h => h))
        refine o_callP (first := []) (cap := []) rfl rfl rfl Tryd.call81 (fun w1 h1 => signedR (x.natAbs * y.natAbs % 18446744073709551616) _ w1 (Nat.mod_lt _ (by decide))) ?_
        refine o_move rfl rfl ?_
        refine o_extract rfl rfl rfl ?_
        refine o_extract rfl rfl rfl ?_
        refine o_assign rfl rfl ?_
        refine o_assign rfl rfl ?_
        refine triL_nil ?_
        refine thenQ_normal ?_
        refine tri_seq ?_
        refine tri_slots [(14, _), (13, _), (11, _)] (.cons rfl (.cons rfl (.cons rfl (.nil _)))) ?_
        refine tri_region ?_
        refine o_move rfl rfl ?_
        refine o_move rfl rfl ?_
        refine o_move rfl rfl ?_
        refine' triL_and [_, _] [(66, _)] (dj := 68) (dr := 70) rfl rfl (fun g2 => ?_) ⟨_, rfl, rfl, rfl, (.cons rfl (.nil _))⟩ rfl ?_
        rotate_left
        · skip
          refine o_move rfl rfl ?_
          refine o_eqlI rfl rfl rfl ?_
          exact triL_nil (Piece.mk rfl rfl (.cons rfl (.nil _)) (fun _ h => h))
        refine o_assign rfl rfl ?_
        refine o_assign rfl rfl ?_
        refine triL_nil ?_
        refine thenQ_normal ?_
        refine tri_ret ?_
        refine blockQ_ret ?_
        refine thenQ_ret ?_
        refine end2 rfl rfl rfl ?_
        exact fun w1 hw1 => ⟨by have e : exF i x y = ((sgF (x.natAbs * y.natAbs % 18446744073709551616) ((decide (x < 0) != decide (y < 0)) && decide ((0 : Int) < (((x.natAbs * y.natAbs % 18446744073709551616) : Nat) : Int)))).1, (sgF (x.natAbs * y.natAbs % 18446744073709551616) ((decide (x < 0) != decide (y < 0)) && decide ((0 : Int) < (((x.natAbs * y.natAbs % 18446744073709551616) : Nat) : Int)))).2 && decide (((x.natAbs * y.natAbs / 18446744073709551616 : Nat) : Int) = 0)) := (by rw [exF, if_neg c0, if_neg c1, if_pos c2, gt0, eq0]); rw [e] <;> rfl, hw1.chg⟩
      · skip
        refine tri_seq ?_
        refine tri_region ?_
        refine o_eqlI rfl rfl rfl ?_
        refine o_assign rfl rfl ?_
        refine triL_nil ?_
        refine thenQ_normal ?_
        refine tri_if rfl (fun c3 => ?_) (fun c3 => ?_)
        · skip
          have y0' : y ≠ 0 := y0 (by omega)
          refine tri_seq ?_
          refine tri_slots [(10, _), (9, _), (8, _)] (.cons rfl (.cons rfl (.cons rfl (.nil _)))) ?_
          refine tri_quiet (by kernel_rfl) (by kernel_rfl) ?_
          refine o_move rfl rfl ?_
          refine o_move rfl rfl ?_
          refine o_quoU x.natAbs y.natAbs rfl rfl rfl (by omega) (by omega) ?_
          refine o_move rfl rfl ?_
          refine o_move rfl rfl ?_
          refine' triL_and [_, _, _, _] [(76, _)] (dj := 78) (dr := 82) rfl rfl (fun g3 => ?_) ⟨_, rfl, rfl, rfl, (.cons rfl (.nil _))⟩ rfl ?_
          rotate_left
          · skip
            refine o_move rfl rfl ?_
            refine o_move rfl rfl ?_
            refine o_quoU x.natAbs y.natAbs rfl rfl rfl (by omega) (by omega) ?_
            refine o_gtr rfl rfl rfl ?_
            exact triL_nil (Piece.mk rfl rfl (.cons rfl (.nil _)) (fun _ h => h))
          refine o_callP (first := []) (cap := []) rfl rfl rfl Tryd.call81 (fun w1 h1 => signedR (x.natAbs / y.natAbs) _ w1 (Nat.lt_of_le_of_lt (Nat.div_le_self _ _) (by omega))) ?_
          refine o_extract rfl rfl rfl ?_
          refine o_extract rfl rfl rfl ?_
          refine o_assign rfl rfl ?_
          refine o_assign rfl rfl ?_
          refine triL_nil ?_
          refine thenQ_normal ?_
          refine tri_ret ?_
          refine blockQ_ret ?_
          refine thenQ_ret ?_
          refine end2 rfl rfl rfl ?_
          exact fun w1 hw1 => ⟨by have e : exF i x y = sgF (x.natAbs / y.natAbs) ((decide (x < 0) != decide (y < 0)) && decide ((0 : Int) < ((x.natAbs / y.natAbs : Nat) : Int))) := (by rw [exF, if_neg c0, if_neg c1, if_neg c2, if_pos c3, gt0]); rw [e], hw1.chg⟩
        · skip
          have y0' : y ≠ 0 := y0 (by omega)
          refine tri_skip ?_
          refine blockQ_normal ?_
          refine thenQ_normal ?_
          refine tri_seq ?_
          refine tri_slots [(9, _), (8, _), (1, _)] (.cons rfl (.cons rfl (.cons rfl (.nil _)))) ?_
          refine tri_quiet (by kernel_rfl) (by kernel_rfl) ?_
          refine o_move rfl rfl ?_
          refine o_move rfl rfl ?_
          refine o_remU x.natAbs y.natAbs rfl rfl rfl (by omega) ?_
          refine o_move rfl rfl ?_
          refine o_lss rfl rfl rfl ?_
          refine o_move rfl rfl ?_
          refine' triL_and [_, _, _, _] [(89, _)] (dj := 92) (dr := 96) rfl rfl (fun g4 => ?_) ⟨_, rfl, rfl, rfl, (.cons rfl (.nil _))⟩ rfl ?_
          rotate_left
          · skip
            refine o_move rfl rfl ?_
            refine o_move rfl rfl ?_
            refine o_remU x.natAbs y.natAbs rfl rfl rfl (by omega) ?_
            refine o_gtr rfl rfl rfl ?_
            exact triL_nil (Piece.mk rfl rfl (.cons rfl (.nil _)) (fun _ h => h))
          refine o_callP (first := []) (cap := []) rfl rfl rfl Tryd.call81 (fun w1 h1 => signedR (x.natAbs % y.natAbs) _ w1 (Nat.lt_of_le_of_lt (Nat.mod_le _ _) (by omega))) ?_
          refine o_extract rfl rfl rfl ?_
          refine o_extract rfl rfl rfl ?_
          refine o_assign rfl rfl ?_
          refine o_assign rfl rfl ?_
          refine triL_nil ?_
          refine thenQ_normal ?_
          refine tri_ret ?_
          refine end2 rfl rfl rfl ?_
          exact fun w1 hw1 => ⟨by have e : exF i x y = sgF (x.natAbs % y.natAbs) (decide (x < 0) && decide ((0 : Int) < ((x.natAbs % y.natAbs : Nat) : Int))) := (by rw [exF, if_neg c0, if_neg c1, if_neg c2, if_neg c3, gt0]); rw [e], hw1.chg⟩

def rcR (i : Int) (a b : Val) : Val × Int := if allE 1 [a, b] ≠ 0 ∨ a.k = 0 ∨ b.k = 0 then (Val.zero, allE 1 [a, b]) else if 2 < i ∧ b.n = 0 then (Val.zero, 32) else if (exF i a.n b.n).2 = true then (⟨1, (exF i a.n b.n).1, []⟩, 0) else (Val.zero, 31)
def rcK (i : Int) (a b : Val) : Val × Int := if i = 0 then reck addF a b else if i = 1 then reck subF a b else if i = 2 then reck mulF a b else if i = 3 then reckZ divF a b else reckZ modF a b
theorem rcR_low {i : Int} {a b : Val} (h : ¬ 2 < i) : rcR i a b = reck (exF i) a b := by
  unfold rcR reck
  by_cases h1 : allE 1 [a, b] ≠ 0 ∨ a.k = 0 ∨ b.k = 0
  · rw [if_pos h1, if_pos h1]
  · rw [if_neg h1, if_neg h1, if_neg (fun e => h e.1)]
theorem rcR_high {i : Int} {a b : Val} (h : 2 < i) : rcR i a b = reckZ (exF i) a b := by
  unfold rcR reckZ
  by_cases h1 : allE 1 [a, b] ≠ 0 ∨ a.k = 0 ∨ b.k = 0
  · rw [if_pos h1, if_neg (fun e => by omega), reck, if_pos h1]
  · rw [if_neg h1]
    by_cases h2 : b.n = 0
    · rw [if_pos ⟨h, h2⟩]
      exact (if_pos (by omega)).symm
    · rw [if_neg (fun e => h2 e.2)]
      refine Eq.trans ?_ (if_neg (fun e => h2 e.2.2.2)).symm
      unfold reck
      exact (if_neg h1).symm
theorem reckZ_congr {f g : Int → Int → Int × Bool} {a b : Val} (h : b.n ≠ 0 → Same (f a.n b.n) (g a.n b.n)) : reckZ f a b = reckZ g a b := by
  unfold reckZ
  by_cases h1 : allE 1 [a, b] = 0 ∧ a.k ≠ 0 ∧ b.k ≠ 0 ∧ b.n = 0
  · rw [if_pos h1, if_pos h1]
  · rw [if_neg h1, if_neg h1]
    by_cases h2 : b.n = 0
    · unfold reck
      rw [if_pos (by omega), if_pos (by omega)]
    · exact reck_congr (h h2)
theorem rc_eq {i : Int} {a b : Val} (hi : 0 ≤ i ∧ i ≤ 4) (fa : fit a) (fb : fit b) : rcR i a b = rcK i a b := by
  have key := fun y0 => exF_ok (which := i) hi (nIn fa) (nIn fb) y0
  unfold rcK
  by_cases h : 2 < i
  · rw [rcR_high h, if_neg (by omega), if_neg (by omega), if_neg (by omega)]
    by_cases h3 : i = 3
    · rw [if_pos h3]
      refine reckZ_congr (fun hb => ?_)
      have := key (fun _ => hb)
      rwa [if_neg (by omega), if_neg (by omega), if_neg (by omega), if_pos h3] at this
    · rw [if_neg h3]
      refine reckZ_congr (fun hb => ?_)
      have := key (fun _ => hb)
      rwa [if_neg (by omega), if_neg (by omega), if_neg (by omega), if_neg h3] at this
  · rw [rcR_low h]
    have := key (fun e => absurd e h)
    by_cases h0 : i = 0
    · rw [if_pos h0] at this ⊢; exact reck_congr this
    · rw [if_neg h0] at this ⊢
      by_cases h1 : i = 1
      · rw [if_pos h1] at this ⊢; exact reck_congr this
      · rw [if_neg h1] at this ⊢
        rw [if_pos (by omega)] at this ⊢
        exact reck_congr this

theorem reckonR (i : Int) (a b : Val) (w : World) (hi : 0 ≤ i ∧ i ≤ 4) (fa : fit a) (fb : fit b) : Calls Tryd.prog 36 #[.int .i64 i, aggV a, aggV b] w (Pure w (resV (rcR i a b))) := by
  refine calls_tri (args := [.int .i64 i, aggV a, aggV b]) (lent := []) (H := []) Tryd.func36 rfl Tryd.ntmps36 rfl (Sat.start _ _ _ _) ?_
  refine (show Tri _ [(0, _), (1, _), (2, _)] _ _ _ from ?_)
  refine tri_seq ?_
  refine tri_region ?_
  refine o_box (Val.cs _) rfl rfl rfl (fun b4 => ?_)
  refine o_box (Val.cs _) rfl rfl rfl (fun b5 => ?_)
  refine o_alloc (Val.cs Val.zero) rfl zero23 rfl (fun b6 => ?_)
  refine o_assign rfl rfl ?_
  refine triL_nil ?_
  refine thenQ_normal ?_
  refine tri_seq ?_
  refine tri_region ?_
  refine o_loadBV agg23 sz23 (by first | exact Nth.z | exact .s .z | exact .s (.s .z) | exact .s (.s (.s .z)) | exact .s (.s (.s (.s .z))) | exact .s (.s (.s (.s (.s .z)))) | exact .s (.s (.s (.s (.s (.s .z))))) | exact .s (.s (.s (.s (.s (.s (.s .z))))))) rfl rfl ?_
  refine o_loadBV agg23 sz23 (by first | exact Nth.z | exact .s .z | exact .s (.s .z) | exact .s (.s (.s .z)) | exact .s (.s (.s (.s .z))) | exact .s (.s (.s (.s (.s .z)))) | exact .s (.s (.s (.s (.s (.s .z))))) | exact .s (.s (.s (.s (.s (.s (.s .z))))))) rfl rfl ?_
  refine o_callP (first := []) (cap := []) rfl rfl rfl Tryd.call64 (fun w_ hw_ => fitR _ _ _ w_ (by assumption) (by assumption)) ?_
  refine o_assign rfl rfl ?_
  refine triL_nil ?_
  refine thenQ_normal ?_
  refine tri_seq ?_
  refine tri_seq ?_
  refine tri_slots [(8, _), (6, _), (5, _), (4, _), (0, _)] (.cons rfl (.cons rfl (.cons rfl (.cons rfl (.cons rfl (.nil _)))))) ?_
  refine tri_region ?_
  refine o_move rfl rfl ?_
  refine o_neqI rfl rfl rfl ?_
  refine o_move rfl rfl ?_
  refine' triL_or [_, _, _] [(8, _), (6, _), (5, _), (4, _), (0, _)] (dj := 16) (dr := 19) rfl rfl (fun g1 => ?_) ⟨_, rfl, rfl, rfl, (.cons rfl (.cons rfl (.cons rfl (.cons rfl (.cons rfl (.nil _))))))⟩ rfl ?_
  rotate_left
  · skip
    have g1 := of_decide_eq_false g1
    refine o_field fo23_0 rfl rfl ?_
    refine o_load agg3 (by first | exact Nth.z | exact .s .z | exact .s (.s .z) | exact .s (.s (.s .z)) | exact .s (.s (.s (.s .z))) | exact .s (.s (.s (.s (.s .z)))) | exact .s (.s (.s (.s (.s (.s .z))))) | exact .s (.s (.s (.s (.s (.s (.s .z))))))) rfl rfl rfl ?_
    refine o_eqlI rfl rfl rfl ?_
    exact triL_nil (Piece.mk rfl rfl (.cons rfl (.cons rfl (.cons rfl (.cons rfl (.cons rfl (.nil _)))))) (fun _ h => h))
  refine o_move rfl rfl ?_
  refine' triL_or [_, _, _] [(8, _), (6, _), (5, _), (4, _), (0, _)] (dj := 21) (dr := 24) rfl rfl (fun g2 => ?_) ⟨_, rfl, rfl, rfl, (.cons rfl (.cons rfl (.cons rfl (.cons rfl (.cons rfl (.nil _))))))⟩ rfl ?_
  rotate_left
  · skip
    refine o_field fo23_0 rfl rfl ?_
    refine o_load agg3 (by first | exact Nth.z | exact .s .z | exact .s (.s .z) | exact .s (.s (.s .z)) | exact .s (.s (.s (.s .z))) | exact .s (.s (.s (.s (.s .z)))) | exact .s (.s (.s (.s (.s (.s .z))))) | exact .s (.s (.s (.s (.s (.s (.s .z))))))) rfl rfl rfl ?_
    refine o_eqlI rfl rfl rfl ?_
    exact triL_nil (Piece.mk rfl rfl (.cons rfl (.cons rfl (.cons rfl (.cons rfl (.cons rfl (.nil _)))))) (fun _ h => h))
  refine triL_nil ?_
  refine thenQ_normal ?_
  refine tri_cond rfl (fun h2 => ?_) (fun h2 => ?_)
  · skip
    simp only [Bool.or_eq_true, decide_eq_true_eq] at h2
    refine tri_seq ?_
    refine tri_slots [(8, _), (6, _)] (.cons rfl (.cons rfl (.nil _))) ?_
    refine tri_region ?_
    refine o_build bval23 rfl rfl ?_
    refine o_move rfl rfl ?_
    refine o_storeBV sz23 (by first | exact Nth.z | exact .s .z | exact .s (.s .z) | exact .s (.s (.s .z)) | exact .s (.s (.s (.s .z))) | exact .s (.s (.s (.s (.s .z)))) | exact .s (.s (.s (.s (.s (.s .z))))) | exact .s (.s (.s (.s (.s (.s (.s .z))))))) rfl rfl rfl ?_
    refine o_assign rfl rfl ?_
    refine triL_nil ?_
    refine thenQ_normal ?_
    refine tri_ret ?_
    refine thenQ_ret ?_
    refine endC2 rfl agg23 sz23 (by first | exact Nth.z | exact .s .z | exact .s (.s .z) | exact .s (.s (.s .z)) | exact .s (.s (.s (.s .z))) | exact .s (.s (.s (.s (.s .z)))) | exact .s (.s (.s (.s (.s (.s .z))))) | exact .s (.s (.s (.s (.s (.s (.s .z))))))) rfl rfl rfl ?_
    exact fun w1 hw1 => ⟨by have e : rcR i a b = (Val.zero, allE 1 [a, b]) := (by rw [rcR, if_pos (by omega)]); rw [e] <;> rfl, hw1.chg⟩
  · skip
    simp only [Bool.or_eq_false_iff, decide_eq_false_iff_not] at h2
    have e1 : allE 1 [a, b] = 0 := Decidable.not_not.1 h2.1.1
    refine tri_skip ?_
    refine thenQ_normal ?_
    refine tri_seq ?_
    refine tri_seq ?_
    refine tri_region ?_
    refine o_move rfl rfl ?_
    refine o_gtr rfl rfl rfl ?_
    refine o_move rfl rfl ?_
    refine' triL_and [_, _, _] [(6, _), (5, _), (4, _), (0, _)] (dj := 30) (dr := 33) rfl rfl (fun g3 => ?_) ⟨_, rfl, rfl, rfl, (.cons rfl (.cons rfl (.cons rfl (.cons rfl (.nil _)))))⟩ rfl ?_
    rotate_left
    · skip
      have g3 := of_decide_eq_true g3
      refine o_field fo23_1 rfl rfl ?_
      refine o_load agg2 (by first | exact Nth.z | exact .s .z | exact .s (.s .z) | exact .s (.s (.s .z)) | exact .s (.s (.s (.s .z))) | exact .s (.s (.s (.s (.s .z)))) | exact .s (.s (.s (.s (.s (.s .z))))) | exact .s (.s (.s (.s (.s (.s (.s .z))))))) rfl rfl rfl ?_
      refine o_eqlI rfl rfl rfl ?_
      exact triL_nil (Piece.mk rfl rfl (.cons rfl (.cons rfl (.cons rfl (.cons rfl (.nil _))))) (fun _ h => h))
    refine triL_nil ?_
    refine thenQ_normal ?_
    refine tri_cond rfl (fun h3 => ?_) (fun h3 => ?_)
    · skip
      simp only [Bool.and_eq_true, decide_eq_true_eq] at h3
      refine tri_seq ?_
      refine tri_slots [(6, _)] (.cons rfl (.nil _)) ?_
      refine tri_region ?_
      refine o_build bval23 rfl rfl ?_
      refine o_storeBV sz23 (by first | exact Nth.z | exact .s .z | exact .s (.s .z) | exact .s (.s (.s .z)) | exact .s (.s (.s (.s .z))) | exact .s (.s (.s (.s (.s .z)))) | exact .s (.s (.s (.s (.s (.s .z))))) | exact .s (.s (.s (.s (.s (.s (.s .z))))))) rfl rfl rfl ?_
      refine o_assign rfl rfl ?_
      refine triL_nil ?_
      refine thenQ_normal ?_
      refine tri_ret ?_
      refine thenQ_ret ?_
      refine endC2 rfl agg23 sz23 (by first | exact Nth.z | exact .s .z | exact .s (.s .z) | exact .s (.s (.s .z)) | exact .s (.s (.s (.s .z))) | exact .s (.s (.s (.s (.s .z)))) | exact .s (.s (.s (.s (.s (.s .z))))) | exact .s (.s (.s (.s (.s (.s (.s .z))))))) rfl rfl rfl ?_
      exact fun w1 hw1 => ⟨by have e : rcR i a b = (Val.zero, 32) := (by rw [rcR, if_neg (by omega), if_pos (by omega)]); rw [e] <;> rfl, hw1.chg⟩
    · skip
      simp only [Bool.and_eq_false_iff, decide_eq_false_iff_not] at h3
      refine tri_skip ?_
      refine thenQ_normal ?_
      refine tri_seq ?_
      refine tri_region ?_
      refine o_move rfl rfl ?_
      refine o_field fo23_1 rfl rfl ?_
      refine o_load agg2 (by first | exact Nth.z | exact .s .z | exact .s (.s .z) | exact .s (.s (.s .z)) | exact .s (.s (.s (.s .z))) | exact .s (.s (.s (.s (.s .z)))) | exact .s (.s (.s (.s (.s (.s .z))))) | exact .s (.s (.s (.s (.s (.s (.s .z))))))) rfl rfl rfl ?_
      refine o_field fo23_1 rfl rfl ?_
      refine o_load agg2 (by first | exact Nth.z | exact .s .z | exact .s (.s .z) | exact .s (.s (.s .z)) | exact .s (.s (.s (.s .z))) | exact .s (.s (.s (.s (.s .z)))) | exact .s (.s (.s (.s (.s (.s .z))))) | exact .s (.s (.s (.s (.s (.s (.s .z))))))) rfl rfl rfl ?_
      refine o_callP (first := []) (cap := []) rfl rfl rfl Tryd.call67 (fun w1 h1 => exactR i a.n b.n w1 hi (nIn fa) (nIn fb) (fun z4 => by omega)) ?_
      refine o_move rfl rfl ?_
      refine o_extract rfl rfl rfl ?_
      refine o_extract rfl rfl rfl ?_
      refine o_assign rfl rfl ?_
      refine o_assign rfl rfl ?_
      refine triL_nil ?_
      refine thenQ_normal ?_
      refine tri_seq ?_
      refine tri_seq ?_
      refine tri_slots [(10, _), (9, _), (6, _)] (.cons rfl (.cons rfl (.cons rfl (.nil _)))) ?_
      refine tri_region ?_
      refine o_move rfl rfl ?_
      refine o_not rfl rfl ?_
      refine triL_nil ?_
      refine thenQ_normal ?_
      refine tri_cond rfl (fun h4 => ?_) (fun h4 => ?_)
      · skip
        have h4 : ¬ (exF i a.n b.n).2 = true := by simpa using h4
        refine tri_seq ?_
        refine tri_slots [(6, _)] (.cons rfl (.nil _)) ?_
        refine tri_region ?_
        refine o_build bval23 rfl rfl ?_
        refine o_storeBV sz23 (by first | exact Nth.z | exact .s .z | exact .s (.s .z) | exact .s (.s (.s .z)) | exact .s (.s (.s (.s .z))) | exact .s (.s (.s (.s (.s .z)))) | exact .s (.s (.s (.s (.s (.s .z))))) | exact .s (.s (.s (.s (.s (.s (.s .z))))))) rfl rfl rfl ?_
        refine o_assign rfl rfl ?_
        refine triL_nil ?_
        refine thenQ_normal ?_
        refine tri_ret ?_
        refine thenQ_ret ?_
        refine endC2 rfl agg23 sz23 (by first | exact Nth.z | exact .s .z | exact .s (.s .z) | exact .s (.s (.s .z)) | exact .s (.s (.s (.s .z))) | exact .s (.s (.s (.s (.s .z)))) | exact .s (.s (.s (.s (.s (.s .z))))) | exact .s (.s (.s (.s (.s (.s (.s .z))))))) rfl rfl rfl ?_
        exact fun w1 hw1 => ⟨by have e : rcR i a b = (Val.zero, 31) := (by rw [rcR, if_neg (by omega), if_neg (by omega), if_neg h4]); rw [e] <;> rfl, hw1.chg⟩
      · skip
        have h4 : (exF i a.n b.n).2 = true := by simpa using h4
        refine tri_skip ?_
        refine thenQ_normal ?_
        refine tri_seq ?_
        refine tri_region ?_
        refine o_move rfl rfl ?_
        refine o_build (bval23_0_1 _ _) rfl rfl ?_
        refine o_storeBV sz23 (by first | exact Nth.z | exact .s .z | exact .s (.s .z) | exact .s (.s (.s .z)) | exact .s (.s (.s (.s .z))) | exact .s (.s (.s (.s (.s .z)))) | exact .s (.s (.s (.s (.s (.s .z))))) | exact .s (.s (.s (.s (.s (.s (.s .z))))))) rfl rfl rfl ?_
        refine o_assign rfl rfl ?_
        refine triL_nil ?_
        refine thenQ_normal ?_
        refine tri_ret ?_
        refine endC2 rfl agg23 sz23 (by first | exact Nth.z | exact .s .z | exact .s (.s .z) | exact .s (.s (.s .z)) | exact .s (.s (.s (.s .z))) | exact .s (.s (.s (.s (.s .z)))) | exact .s (.s (.s (.s (.s (.s .z))))) | exact .s (.s (.s (.s (.s (.s (.s .z))))))) rfl rfl rfl ?_
        exact fun w1 hw1 => ⟨by have e : rcR i a b = (⟨1, (exF i a.n b.n).1, []⟩, 0) := (by rw [rcR, if_neg (by omega), if_neg (by omega), if_pos h4]); rw [e] <;> rfl, hw1.chg⟩

theorem negR (a : Val) (w : World) (fa : fit a) : Calls Tryd.prog 38 #[aggV a] w (Pure w (resV (reck subF (numV 0) a))) := by
  refine calls_tri (args := [aggV a]) (lent := []) (H := []) Tryd.func38 rfl Tryd.ntmps38 rfl (Sat.start _ _ _ _) ?_
  refine (show Tri _ [(0, _)] _ _ _ from ?_)
  have f0 : fit (numV 0) := ⟨⟨⟨by decide, by decide⟩, ⟨by decide, by decide⟩⟩, by decide⟩
  have e9 : rcR 1 (numV 0) a = reck subF (numV 0) a := by rw [rc_eq (by omega) f0 fa]; rfl
  refine tri_seq ?_
  refine tri_region ?_
  refine o_box (Val.cs _) rfl rfl rfl (fun b1 => ?_)
  refine o_alloc (Val.cs Val.zero) rfl zero23 rfl (fun b2 => ?_)
  refine o_assign rfl rfl ?_
  refine triL_nil ?_
  refine thenQ_normal ?_
  refine tri_seq ?_
  refine tri_region ?_
  refine o_build (bval23_0 _) rfl rfl ?_
  refine o_loadBV agg23 sz23 (by first | exact Nth.z | exact .s .z | exact .s (.s .z) | exact .s (.s (.s .z)) | exact .s (.s (.s (.s .z))) | exact .s (.s (.s (.s (.s .z)))) | exact .s (.s (.s (.s (.s (.s .z))))) | exact .s (.s (.s (.s (.s (.s (.s .z))))))) rfl rfl ?_
  refine o_callP (first := []) (cap := []) rfl rfl rfl Tryd.call36 (fun w1 h1 => reckonR 1 (numV 0) a w1 (by omega) f0 fa) ?_
  refine o_extract rfl rfl rfl ?_
  refine o_extract rfl rfl rfl ?_
  refine o_storeBV sz23 (by first | exact Nth.z | exact .s .z | exact .s (.s .z) | exact .s (.s (.s .z)) | exact .s (.s (.s (.s .z))) | exact .s (.s (.s (.s (.s .z)))) | exact .s (.s (.s (.s (.s (.s .z))))) | exact .s (.s (.s (.s (.s (.s (.s .z))))))) rfl rfl rfl ?_
  refine o_assign rfl rfl ?_
  refine triL_nil ?_
  refine thenQ_normal ?_
  refine tri_ret ?_
  refine endC2 rfl agg23 sz23 (by first | exact Nth.z | exact .s .z | exact .s (.s .z) | exact .s (.s (.s .z)) | exact .s (.s (.s (.s .z))) | exact .s (.s (.s (.s (.s .z)))) | exact .s (.s (.s (.s (.s (.s .z))))) | exact .s (.s (.s (.s (.s (.s (.s .z))))))) rfl rfl rfl ?_
  rw [← e9]
  exact fin_pure

theorem joinR (a b : Val) (w : World) (fa : fit a) (fb : fit b) : Calls Tryd.prog 40 #[aggV a, aggV b] w (Pure w (resV (joinV a b))) := by
  refine calls_tri (args := [aggV a, aggV b]) (lent := []) (H := []) Tryd.func40 rfl Tryd.ntmps40 rfl (Sat.start _ _ _ _) ?_
  refine (show Tri _ [(0, _), (1, _)] _ _ _ from ?_)
  have fab : ∀ v ∈ [a, b], fit v := fun v hv => by rcases List.mem_cons.1 hv with rfl | hv; exact fa; obtain rfl := List.mem_singleton.1 hv; exact fb
  have la := fa.2
  have lb := fb.2
  refine tri_seq ?_
  refine tri_region ?_
  refine o_box (Val.cs _) rfl rfl rfl (fun b2 => ?_)
  refine o_box (Val.cs _) rfl rfl rfl (fun b3 => ?_)
  refine o_alloc (Val.cs Val.zero) rfl zero23 rfl (fun b4 => ?_)
  refine o_assign rfl rfl ?_
  refine triL_nil ?_
  refine thenQ_normal ?_
  refine tri_seq ?_
  refine tri_region ?_
  refine o_loadBV agg23 sz23 (by first | exact Nth.z | exact .s .z | exact .s (.s .z) | exact .s (.s (.s .z)) | exact .s (.s (.s (.s .z))) | exact .s (.s (.s (.s (.s .z)))) | exact .s (.s (.s (.s (.s (.s .z))))) | exact .s (.s (.s (.s (.s (.s (.s .z))))))) rfl rfl ?_
  refine o_loadBV agg23 sz23 (by first | exact Nth.z | exact .s .z | exact .s (.s .z) | exact .s (.s (.s .z)) | exact .s (.s (.s (.s .z))) | exact .s (.s (.s (.s (.s .z)))) | exact .s (.s (.s (.s (.s (.s .z))))) | exact .s (.s (.s (.s (.s (.s (.s .z))))))) rfl rfl ?_
  refine o_callP (first := []) (cap := []) rfl rfl rfl Tryd.call64 (fun w_ hw_ => fitR _ _ _ w_ (by assumption) (by assumption)) ?_
  refine o_assign rfl rfl ?_
  refine triL_nil ?_
  refine thenQ_normal ?_
  refine tri_seq ?_
  refine tri_seq ?_
  refine tri_slots [(6, _), (4, _), (3, _), (2, _)] (.cons rfl (.cons rfl (.cons rfl (.cons rfl (.nil _))))) ?_
  refine tri_region ?_
  refine o_move rfl rfl ?_
  refine o_neqI rfl rfl rfl ?_
  refine o_move rfl rfl ?_
  refine' triL_or [_, _, _] [(6, _), (4, _), (3, _), (2, _)] (dj := 12) (dr := 15) rfl rfl (fun g1 => ?_) ⟨_, rfl, rfl, rfl, (.cons rfl (.cons rfl (.cons rfl (.cons rfl (.nil _)))))⟩ rfl ?_
  rotate_left
  · skip
    have g1 := of_decide_eq_false g1
    refine o_field fo23_0 rfl rfl ?_
    refine o_load agg3 (by first | exact Nth.z | exact .s .z | exact .s (.s .z) | exact .s (.s (.s .z)) | exact .s (.s (.s (.s .z))) | exact .s (.s (.s (.s (.s .z)))) | exact .s (.s (.s (.s (.s (.s .z))))) | exact .s (.s (.s (.s (.s (.s (.s .z))))))) rfl rfl rfl ?_
    refine o_eqlI rfl rfl rfl ?_
    exact triL_nil (Piece.mk rfl rfl (.cons rfl (.cons rfl (.cons rfl (.cons rfl (.nil _))))) (fun _ h => h))
  refine o_move rfl rfl ?_
  refine' triL_or [_, _, _] [(6, _), (4, _), (3, _), (2, _)] (dj := 17) (dr := 20) rfl rfl (fun g2 => ?_) ⟨_, rfl, rfl, rfl, (.cons rfl (.cons rfl (.cons rfl (.cons rfl (.nil _)))))⟩ rfl ?_
  rotate_left
  · skip
    refine o_field fo23_0 rfl rfl ?_
    refine o_load agg3 (by first | exact Nth.z | exact .s .z | exact .s (.s .z) | exact .s (.s (.s .z)) | exact .s (.s (.s (.s .z))) | exact .s (.s (.s (.s (.s .z)))) | exact .s (.s (.s (.s (.s (.s .z))))) | exact .s (.s (.s (.s (.s (.s (.s .z))))))) rfl rfl rfl ?_
    refine o_eqlI rfl rfl rfl ?_
    exact triL_nil (Piece.mk rfl rfl (.cons rfl (.cons rfl (.cons rfl (.cons rfl (.nil _))))) (fun _ h => h))
  refine triL_nil ?_
  refine thenQ_normal ?_
  refine tri_cond rfl (fun h2 => ?_) (fun h2 => ?_)
  · skip
    simp only [Bool.or_eq_true, decide_eq_true_eq] at h2
    refine tri_seq ?_
    refine tri_region ?_
    refine o_build bval23 rfl rfl ?_
    refine o_move rfl rfl ?_
    refine o_storeBV sz23 (by first | exact Nth.z | exact .s .z | exact .s (.s .z) | exact .s (.s (.s .z)) | exact .s (.s (.s (.s .z))) | exact .s (.s (.s (.s (.s .z)))) | exact .s (.s (.s (.s (.s (.s .z))))) | exact .s (.s (.s (.s (.s (.s (.s .z))))))) rfl rfl rfl ?_
    refine o_assign rfl rfl ?_
    refine triL_nil ?_
    refine thenQ_normal ?_
    refine tri_ret ?_
    refine thenQ_ret ?_
    refine endC2 rfl agg23 sz23 (by first | exact Nth.z | exact .s .z | exact .s (.s .z) | exact .s (.s (.s .z)) | exact .s (.s (.s (.s .z))) | exact .s (.s (.s (.s (.s .z)))) | exact .s (.s (.s (.s (.s (.s .z))))) | exact .s (.s (.s (.s (.s (.s (.s .z))))))) rfl rfl rfl ?_
    exact fun w1 hw1 => ⟨by have e : joinV a b = (Val.zero, allE 2 [a, b]) := (by rw [joinV, if_pos (by omega)]); rw [e] <;> rfl, hw1.chg⟩
  · skip
    simp only [Bool.or_eq_false_iff, decide_eq_false_iff_not] at h2
    have e1 : allE 2 [a, b] = 0 := Decidable.not_not.1 h2.1.1
    refine tri_skip ?_
    refine thenQ_normal ?_
    refine tri_seq ?_
    refine tri_seq ?_
    refine tri_region ?_
    refine o_field fo23_2 rfl rfl ?_
    refine o_load agg9 (by first | exact Nth.z | exact .s .z | exact .s (.s .z) | exact .s (.s (.s .z)) | exact .s (.s (.s (.s .z))) | exact .s (.s (.s (.s (.s .z)))) | exact .s (.s (.s (.s (.s (.s .z))))) | exact .s (.s (.s (.s (.s (.s (.s .z))))))) rfl rfl rfl ?_
    refine o_lenB Tryd.underlying9 rfl rfl ?_
    refine o_field fo23_2 rfl rfl ?_
    refine o_load agg9 (by first | exact Nth.z | exact .s .z | exact .s (.s .z) | exact .s (.s (.s .z)) | exact .s (.s (.s (.s .z))) | exact .s (.s (.s (.s (.s .z)))) | exact .s (.s (.s (.s (.s (.s .z))))) | exact .s (.s (.s (.s (.s (.s (.s .z))))))) rfl rfl rfl ?_
    refine o_lenB Tryd.underlying9 rfl rfl ?_
    refine o_subN rfl rfl rfl (by omega) ?_
    refine o_gtr rfl rfl rfl ?_
    refine triL_nil ?_
    refine thenQ_normal ?_
    refine tri_if rfl (fun h3 => ?_) (fun h3 => ?_)
    · skip
      refine tri_seq ?_
      refine tri_slots [(4, _)] (.cons rfl (.nil _)) ?_
      refine tri_region ?_
      refine o_build bval23 rfl rfl ?_
      refine o_storeBV sz23 (by first | exact Nth.z | exact .s .z | exact .s (.s .z) | exact .s (.s (.s .z)) | exact .s (.s (.s (.s .z))) | exact .s (.s (.s (.s (.s .z)))) | exact .s (.s (.s (.s (.s (.s .z))))) | exact .s (.s (.s (.s (.s (.s (.s .z))))))) rfl rfl rfl ?_
      refine o_assign rfl rfl ?_
      refine triL_nil ?_
      refine thenQ_normal ?_
      refine tri_ret ?_
      refine thenQ_ret ?_
      refine endC2 rfl agg23 sz23 (by first | exact Nth.z | exact .s .z | exact .s (.s .z) | exact .s (.s (.s .z)) | exact .s (.s (.s (.s .z))) | exact .s (.s (.s (.s (.s .z)))) | exact .s (.s (.s (.s (.s (.s .z))))) | exact .s (.s (.s (.s (.s (.s (.s .z))))))) rfl rfl rfl ?_
      exact fun w1 hw1 => ⟨by have e : joinV a b = (Val.zero, 3) := (by rw [joinV, if_neg (by omega), if_pos (by omega)]); rw [e] <;> rfl, hw1.chg⟩
    · skip
      refine tri_skip ?_
      refine thenQ_normal ?_
      refine tri_seq ?_
      refine tri_slots [(4, _), (3, _), (2, _)] (.cons rfl (.cons rfl (.cons rfl (.nil _)))) ?_
      refine tri_region ?_
      refine o_field fo23_2 rfl rfl ?_
      refine o_load agg9 (by first | exact Nth.z | exact .s .z | exact .s (.s .z) | exact .s (.s (.s .z)) | exact .s (.s (.s (.s .z))) | exact .s (.s (.s (.s (.s .z)))) | exact .s (.s (.s (.s (.s (.s .z))))) | exact .s (.s (.s (.s (.s (.s (.s .z))))))) rfl rfl rfl ?_
      refine o_field fo23_2 rfl rfl ?_
      refine o_load agg9 (by first | exact Nth.z | exact .s .z | exact .s (.s .z) | exact .s (.s (.s .z)) | exact .s (.s (.s (.s .z))) | exact .s (.s (.s (.s (.s .z)))) | exact .s (.s (.s (.s (.s (.s .z))))) | exact .s (.s (.s (.s (.s (.s (.s .z))))))) rfl rfl rfl ?_
      refine o_cat rfl rfl rfl (by omega) ?_
      refine o_build (bval23_0_2 _ _) rfl rfl ?_
      refine o_storeBV sz23 (by first | exact Nth.z | exact .s .z | exact .s (.s .z) | exact .s (.s (.s .z)) | exact .s (.s (.s (.s .z))) | exact .s (.s (.s (.s (.s .z)))) | exact .s (.s (.s (.s (.s (.s .z))))) | exact .s (.s (.s (.s (.s (.s (.s .z))))))) rfl rfl rfl ?_
      refine o_assign rfl rfl ?_
      refine triL_nil ?_
      refine thenQ_normal ?_
      refine tri_ret ?_
      refine endC2 rfl agg23 sz23 (by first | exact Nth.z | exact .s .z | exact .s (.s .z) | exact .s (.s (.s .z)) | exact .s (.s (.s (.s .z))) | exact .s (.s (.s (.s (.s .z)))) | exact .s (.s (.s (.s (.s (.s .z))))) | exact .s (.s (.s (.s (.s (.s (.s .z))))))) rfl rfl rfl ?_
      exact fun w1 hw1 => ⟨by have e : joinV a b = (⟨2, 0, a.s ++ b.s⟩, 0) := (by rw [joinV, if_neg (by omega), if_neg (by omega)]); rw [e] <;> rfl, hw1.chg⟩

end Go.Proofs.YtgogkkkacpacgaaDoor
