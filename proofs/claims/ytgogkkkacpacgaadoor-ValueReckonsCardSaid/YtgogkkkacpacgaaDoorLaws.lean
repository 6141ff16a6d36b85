/- the values' laws, walked -/
import Derived.Test.YtgogkkkacpacgaaDoorWalks5
namespace Go.Proofs.YtgogkkkacpacgaaDoor
open Go.WK Go.RowKit 

theorem zs24 : (Tryd.prog.info? 24).map (fun i => (i.zero, i.size)) = some (some (.int .i64 0), 1) := by kernel_rfl
theorem sz24 : szB Tryd.prog 24 = some 1 := by kernel_rfl
theorem agg24 : aggB Tryd.prog 24 = some false := by kernel_rfl

theorem valueMay (a b : Val) (w : World) (fa : fit a) (fb : fit b) (hL : LV w) : Calls Tryd.prog 3 #[aggV a, aggV b] w (Pure w (.bool true)) := by
  refine calls_tri (args := [aggV a, aggV b]) (lent := []) (H := []) Tryd.func3 rfl Tryd.ntmps3 rfl (Sat.start _ _ _ _) ?_
  refine (show Tri _ [(0, _), (1, _)] _ _ _ from ?_)
  refine tri_seq ?_
  refine tri_region ?_
  refine o_box (Val.cs _) rfl rfl rfl (fun b2 => ?_)
  refine o_box (Val.cs _) rfl rfl rfl (fun b3 => ?_)
  refine o_assign rfl rfl ?_
  refine triL_nil ?_
  refine thenQ_normal ?_
  refine tri_seq ?_
  refine tri_region ?_
  refine o_loadBV agg23 sz23 (by repeat (first | exact Nth.z | apply Nth.s)) rfl rfl ?_
  refine o_loadBV agg23 sz23 (by repeat (first | exact Nth.z | apply Nth.s)) rfl rfl ?_
  refine o_callP (first := []) (cap := []) rfl rfl rfl Tryd.call12 (fun w_ hw_ => cmpK _ _ w_ (by assumption) (by assumption)) ?_
  refine o_move rfl rfl ?_
  refine o_extract rfl rfl rfl ?_
  refine o_extract rfl rfl rfl ?_
  refine o_assign rfl rfl ?_
  refine o_assign rfl rfl ?_
  refine triL_nil ?_
  refine thenQ_normal ?_
  refine tri_seq ?_
  refine tri_slots [(6, _), (5, _), (3, _), (2, _)] (.cons rfl (.cons rfl (.cons rfl (.cons rfl (.nil _))))) ?_
  refine tri_region ?_
  refine o_loadBV agg23 sz23 (by repeat (first | exact Nth.z | apply Nth.s)) rfl rfl ?_
  refine o_loadBV agg23 sz23 (by repeat (first | exact Nth.z | apply Nth.s)) rfl rfl ?_
  refine o_callP (first := []) (cap := []) rfl rfl rfl Tryd.call13 (fun w_ hw_ => cmpR3 _ _ w_ (by assumption) (by assumption)) ?_
  refine o_move rfl rfl ?_
  refine o_extract rfl rfl rfl ?_
  refine o_extract rfl rfl rfl ?_
  refine o_assign rfl rfl ?_
  refine o_assign rfl rfl ?_
  refine triL_nil ?_
  refine thenQ_normal ?_
  refine tri_seq ?_
  refine tri_slots [(8, _), (7, _), (6, _), (5, _), (2, _)] (.cons rfl (.cons rfl (.cons rfl (.cons rfl (.cons rfl (.nil _)))))) ?_
  refine tri_quiet (by kernel_rfl) (by kernel_rfl) ?_
  refine o_loadBV agg23 sz23 (by repeat (first | exact Nth.z | apply Nth.s)) rfl rfl ?_
  refine o_callP (first := []) (cap := []) rfl rfl rfl Tryd.call14 (fun w_ hw_ => mayK _ w_ (by assumption)) ?_
  refine o_loadBV agg23 sz23 (by repeat (first | exact Nth.z | apply Nth.s)) rfl rfl ?_
  refine o_callP (first := []) (cap := []) rfl rfl rfl Tryd.call15 (fun w_ hw_ => mayR _ w_ (by assumption)) ?_
  refine o_eqlB rfl Tryd.underlying4 rfl rfl ?_
  refine o_move rfl rfl ?_
  refine' triL_and [_, _, _] [(8, _), (6, _)] (dj := 26) (dr := 29) rfl rfl (fun g1 => ?_) ⟨_, rfl, rfl, rfl, (.cons rfl (.cons rfl (.nil _)))⟩ rfl ?_
  rotate_left
  · skip
    refine o_move rfl rfl ?_
    refine o_move rfl rfl ?_
    refine o_eqlI rfl rfl rfl ?_
    exact triL_nil (Piece.mk rfl rfl (.cons rfl (.cons rfl (.nil _))) (fun _ h => h))
  refine o_move rfl rfl ?_
  refine' triL_and [_, _, _] [] (dj := 31) (dr := 34) rfl rfl (fun g2 => ?_) ⟨_, rfl, rfl, rfl, (.nil _)⟩ rfl ?_
  rotate_left
  · skip
    refine o_move rfl rfl ?_
    refine o_move rfl rfl ?_
    refine o_eqlI rfl rfl rfl ?_
    exact triL_nil (Piece.mk rfl rfl (.nil _) (fun _ h => h))
  refine o_move rfl rfl ?_
  refine' triL_and [_] [] (dj := 36) (dr := 37) rfl rfl (fun g3 => ?_) ⟨_, rfl, rfl, rfl, (.nil _)⟩ rfl ?_
  rotate_left
  · skip
    refine o_callP (first := []) (cap := []) rfl rfl rfl Tryd.call16 (fun w_ hw_ => awakeK w_ (hL.chg hw_.chg)) ?_
    exact triL_nil (Piece.mk rfl rfl (.nil _) (fun _ h => h))
  refine o_assign rfl rfl ?_
  refine triL_nil ?_
  refine thenQ_normal ?_
  refine tri_ret ?_
  refine end1 rfl rfl ?_
  exact fun w1 hw1 => ⟨by simp, hw1.chg⟩

theorem fit_held (p : Int → Bool) (a b : Val) : fit (held p a b).1 := by
  unfold held
  split
  · split
    · exact fitZ
    · split
      · exact fitT _
      · exact fitZ
  · exact fitZ
theorem fit_and (a b : Val) : fit (andV a b).1 := by
  unfold andV
  split
  · split
    · exact fitT _
    · split
      · exact fitZ
      · exact fitT _
  · exact fitZ
theorem fit_not (a : Val) : fit (notV a).1 := by
  unfold notV
  split
  · exact fitZ
  · exact fitT _
theorem cmpE_may {a b : Val} (h : (may a && may b) = true) : cmpE a b = (cmpV a b, 0) := by rw [cmpE, if_pos h]
theorem ord_bad {a b c : Val} (h : ¬ (may a = true ∧ may b = true ∧ may c = true)) : (decide ((cmpE a b).2 = 5) || decide ((cmpE b c).2 = 5)) = true := by
  unfold cmpE
  cases h1 : may a <;> cases h2 : may b <;> cases h3 : may c <;> simp_all
theorem ord_b1 {a b : Val} (ma : may a = true) (mb : may b = true) (oa : a.ok) (ob : b.ok) : (((decide (cmpV a b ≠ IntKind.i64.wrap (0 - cmpV b a)) || (decide (cmpV a b = 0) != decide (a = b))) || decide (cmpV a b < -1)) || decide (1 < cmpV a b)) = false := by
  have h1 := order_neg ma mb oa ob
  have h2 := order_range ma mb oa ob
  have h3 : IntKind.i64.wrap (0 - cmpV b a) = cmpV a b := by rw [h1, IntKind.wrap_i64]; omega
  have h4 : decide (cmpV a b = 0) = decide (a = b) := decide_eq_decide.2 (cmpV_zero ma mb)
  rw [h3, h4]
  simp
  omega
theorem ord_b2 {a b c : Val} (ma : may a = true) (mb : may b = true) (mc : may c = true) (oa : a.ok) (ob : b.ok) (oc : c.ok) :
    (((decide (0 < cmpV a b) || decide (0 < cmpV b c)) || decide (cmpV a c ≤ 0)) && ((decide (0 ≤ cmpV a b) || decide (0 < cmpV b c)) || decide (cmpV a c < 0))) = true := by
  have h := fun p q => order_trans ma mb mc oa ob oc p q
  simp
  by_cases p : cmpV a b ≤ 0
  · by_cases q : cmpV b c ≤ 0
    · have := h p q; omega
    · omega
  · omega

theorem valueOrder (a b c : Val) (w : World) (fa : fit a) (fb : fit b) (fc : fit c) (hL : LV w) : Calls Tryd.prog 4 #[aggV a, aggV b, aggV c] w (Pure w (.bool true)) := by
  refine calls_tri (args := [aggV a, aggV b, aggV c]) (lent := []) (H := []) Tryd.func4 rfl Tryd.ntmps4 rfl (Sat.start _ _ _ _) ?_
  refine (show Tri _ [(0, _), (1, _), (2, _)] _ _ _ from ?_)
  refine tri_seq ?_
  refine tri_region ?_
  refine o_box (Val.cs _) rfl rfl rfl (fun b3 => ?_)
  refine o_box (Val.cs _) rfl rfl rfl (fun b4 => ?_)
  refine o_box (Val.cs _) rfl rfl rfl (fun b5 => ?_)
  refine o_assign rfl rfl ?_
  refine triL_nil ?_
  refine thenQ_normal ?_
  refine tri_seq ?_
  refine tri_seq ?_
  refine tri_slots [(5, _), (4, _), (3, _)] (.cons rfl (.cons rfl (.cons rfl (.nil _)))) ?_
  refine tri_region ?_
  refine o_loadBV agg23 sz23 (by repeat (first | exact Nth.z | apply Nth.s)) rfl rfl ?_
  refine o_callP (first := []) (cap := []) rfl rfl rfl Tryd.call14 (fun w_ hw_ => mayK _ w_ (by assumption)) ?_
  refine o_not rfl rfl ?_
  refine o_move rfl rfl ?_
  refine' triL_or [_, _, _] [(5, _), (4, _), (3, _)] (dj := 22) (dr := 25) rfl rfl (fun g1 => ?_) ⟨_, rfl, rfl, rfl, (.cons rfl (.cons rfl (.cons rfl (.nil _))))⟩ rfl ?_
  rotate_left
  · skip
    refine o_loadBV agg23 sz23 (by repeat (first | exact Nth.z | apply Nth.s)) rfl rfl ?_
    refine o_callP (first := []) (cap := []) rfl rfl rfl Tryd.call14 (fun w_ hw_ => mayK _ w_ (by assumption)) ?_
    refine o_not rfl rfl ?_
    exact triL_nil (Piece.mk rfl rfl (.cons rfl (.cons rfl (.cons rfl (.nil _)))) (fun _ h => h))
  refine o_move rfl rfl ?_
  refine' triL_or [_, _, _] [(5, _), (4, _), (3, _)] (dj := 27) (dr := 30) rfl rfl (fun g2 => ?_) ⟨_, rfl, rfl, rfl, (.cons rfl (.cons rfl (.cons rfl (.nil _))))⟩ rfl ?_
  rotate_left
  · skip
    refine o_loadBV agg23 sz23 (by repeat (first | exact Nth.z | apply Nth.s)) rfl rfl ?_
    refine o_callP (first := []) (cap := []) rfl rfl rfl Tryd.call14 (fun w_ hw_ => mayK _ w_ (by assumption)) ?_
    refine o_not rfl rfl ?_
    exact triL_nil (Piece.mk rfl rfl (.cons rfl (.cons rfl (.cons rfl (.nil _)))) (fun _ h => h))
  refine triL_nil ?_
  refine thenQ_normal ?_
  refine tri_cond rfl (fun h0 => ?_) (fun h0 => ?_)
  · skip
    have h0 : ¬ (may a = true ∧ may b = true ∧ may c = true) := fun e => by simp [e.1, e.2.1, e.2.2] at h0
    refine tri_seq ?_
    refine tri_region ?_
    refine o_loadBV agg23 sz23 (by repeat (first | exact Nth.z | apply Nth.s)) rfl rfl ?_
    refine o_loadBV agg23 sz23 (by repeat (first | exact Nth.z | apply Nth.s)) rfl rfl ?_
    refine o_callP (first := []) (cap := []) rfl rfl rfl Tryd.call12 (fun w_ hw_ => cmpK _ _ w_ (by assumption) (by assumption)) ?_
    refine o_move rfl rfl ?_
    refine o_extract rfl rfl rfl ?_
    refine o_extract rfl rfl rfl ?_
    refine o_assign rfl rfl ?_
    refine o_assign rfl rfl ?_
    refine triL_nil ?_
    refine thenQ_normal ?_
    refine tri_seq ?_
    refine tri_slots [(8, _), (5, _), (4, _)] (.cons rfl (.cons rfl (.cons rfl (.nil _)))) ?_
    refine tri_region ?_
    refine o_loadBV agg23 sz23 (by repeat (first | exact Nth.z | apply Nth.s)) rfl rfl ?_
    refine o_loadBV agg23 sz23 (by repeat (first | exact Nth.z | apply Nth.s)) rfl rfl ?_
    refine o_callP (first := []) (cap := []) rfl rfl rfl Tryd.call12 (fun w_ hw_ => cmpK _ _ w_ (by assumption) (by assumption)) ?_
    refine o_move rfl rfl ?_
    refine o_extract rfl rfl rfl ?_
    refine o_extract rfl rfl rfl ?_
    refine o_assign rfl rfl ?_
    refine o_assign rfl rfl ?_
    refine triL_nil ?_
    refine thenQ_normal ?_
    refine tri_seq ?_
    refine tri_slots [(10, _), (8, _)] (.cons rfl (.cons rfl (.nil _))) ?_
    refine tri_region ?_
    refine o_move rfl rfl ?_
    refine o_eqlI rfl rfl rfl ?_
    refine o_move rfl rfl ?_
    refine' triL_or [_, _] [] (dj := 46) (dr := 48) rfl rfl (fun g3 => ?_) ⟨_, rfl, rfl, rfl, (.nil _)⟩ rfl ?_
    rotate_left
    · skip
      refine o_move rfl rfl ?_
      refine o_eqlI rfl rfl rfl ?_
      exact triL_nil (Piece.mk rfl rfl (.nil _) (fun _ h => h))
    refine o_move rfl rfl ?_
    refine' triL_and [_] [] (dj := 50) (dr := 51) rfl rfl (fun g4 => ?_) ⟨_, rfl, rfl, rfl, (.nil _)⟩ rfl ?_
    rotate_left
    · skip
      refine o_callP (first := []) (cap := []) rfl rfl rfl Tryd.call16 (fun w_ hw_ => awakeK w_ (hL.chg hw_.chg)) ?_
      exact triL_nil (Piece.mk rfl rfl (.nil _) (fun _ h => h))
    refine o_assign rfl rfl ?_
    refine triL_nil ?_
    refine thenQ_normal ?_
    refine tri_ret ?_
    refine thenQ_ret ?_
    refine end1 rfl rfl ?_
    exact fun w1 hw1 => ⟨by rw [ord_bad h0, Bool.true_and], hw1.chg⟩
  · skip
    have ma : may a = true := by cases h : may a <;> simp_all
    have mb : may b = true := by cases h : may b <;> simp_all
    have mc : may c = true := by cases h : may c <;> simp_all
    have qab : cmpE a b = (cmpV a b, 0) := cmpE_may (by simp [ma, mb])
    have qba : cmpE b a = (cmpV b a, 0) := cmpE_may (by simp [ma, mb])
    have qbc : cmpE b c = (cmpV b c, 0) := cmpE_may (by simp [mb, mc])
    have qac : cmpE a c = (cmpV a c, 0) := cmpE_may (by simp [ma, mc])
    refine tri_skip ?_
    refine thenQ_normal ?_
    refine tri_seq ?_
    refine tri_region ?_
    refine o_loadBV agg23 sz23 (by repeat (first | exact Nth.z | apply Nth.s)) rfl rfl ?_
    refine o_loadBV agg23 sz23 (by repeat (first | exact Nth.z | apply Nth.s)) rfl rfl ?_
    refine o_callP (first := []) (cap := []) rfl rfl rfl Tryd.call12 (fun w_ hw_ => cmpK _ _ w_ (by assumption) (by assumption)) ?_
    refine o_move rfl rfl ?_
    refine o_extract rfl rfl rfl ?_
    refine o_extract rfl rfl rfl ?_
    refine o_assign rfl rfl ?_
    refine o_assign rfl rfl ?_
    refine triL_nil ?_
    refine thenQ_normal ?_
    refine tri_seq ?_
    refine tri_slots [(11, _), (5, _), (4, _), (3, _)] (.cons rfl (.cons rfl (.cons rfl (.cons rfl (.nil _))))) ?_
    refine tri_region ?_
    refine o_loadBV agg23 sz23 (by repeat (first | exact Nth.z | apply Nth.s)) rfl rfl ?_
    refine o_loadBV agg23 sz23 (by repeat (first | exact Nth.z | apply Nth.s)) rfl rfl ?_
    refine o_callP (first := []) (cap := []) rfl rfl rfl Tryd.call12 (fun w_ hw_ => cmpK _ _ w_ (by assumption) (by assumption)) ?_
    refine o_move rfl rfl ?_
    refine o_extract rfl rfl rfl ?_
    refine o_extract rfl rfl rfl ?_
    refine o_assign rfl rfl ?_
    refine o_assign rfl rfl ?_
    refine triL_nil ?_
    refine thenQ_normal ?_
    refine tri_seq ?_
    refine tri_slots [(13, _), (11, _), (5, _), (4, _), (3, _)] (.cons rfl (.cons rfl (.cons rfl (.cons rfl (.cons rfl (.nil _)))))) ?_
    refine tri_region ?_
    refine o_loadBV agg23 sz23 (by repeat (first | exact Nth.z | apply Nth.s)) rfl rfl ?_
    refine o_loadBV agg23 sz23 (by repeat (first | exact Nth.z | apply Nth.s)) rfl rfl ?_
    refine o_callP (first := []) (cap := []) rfl rfl rfl Tryd.call12 (fun w_ hw_ => cmpK _ _ w_ (by assumption) (by assumption)) ?_
    refine o_move rfl rfl ?_
    refine o_extract rfl rfl rfl ?_
    refine o_extract rfl rfl rfl ?_
    refine o_assign rfl rfl ?_
    refine o_assign rfl rfl ?_
    refine triL_nil ?_
    refine thenQ_normal ?_
    refine tri_seq ?_
    refine tri_slots [(15, _), (13, _), (11, _), (5, _), (4, _), (3, _)] (.cons rfl (.cons rfl (.cons rfl (.cons rfl (.cons rfl (.cons rfl (.nil _))))))) ?_
    refine tri_region ?_
    refine o_loadBV agg23 sz23 (by repeat (first | exact Nth.z | apply Nth.s)) rfl rfl ?_
    refine o_loadBV agg23 sz23 (by repeat (first | exact Nth.z | apply Nth.s)) rfl rfl ?_
    refine o_callP (first := []) (cap := []) rfl rfl rfl Tryd.call12 (fun w_ hw_ => cmpK _ _ w_ (by assumption) (by assumption)) ?_
    refine o_move rfl rfl ?_
    refine o_extract rfl rfl rfl ?_
    refine o_extract rfl rfl rfl ?_
    refine o_assign rfl rfl ?_
    refine o_assign rfl rfl ?_
    refine triL_nil ?_
    refine thenQ_normal ?_
    refine tri_seq ?_
    refine tri_seq ?_
    refine tri_slots [(17, _), (15, _), (13, _), (11, _), (4, _), (3, _)] (.cons rfl (.cons rfl (.cons rfl (.cons rfl (.cons rfl (.cons rfl (.nil _))))))) ?_
    refine tri_region ?_
    refine o_move rfl rfl ?_
    refine o_move rfl rfl ?_
    refine o_negI rfl rfl ?_
    refine o_neqI rfl rfl rfl ?_
    refine o_move rfl rfl ?_
    refine' triL_or [_, _, _, _, _, _] [(17, _), (15, _), (11, _)] (dj := 81) (dr := 87) rfl rfl (fun g5 => ?_) ⟨_, rfl, rfl, rfl, (.cons rfl (.cons rfl (.cons rfl (.nil _))))⟩ rfl ?_
    rotate_left
    · skip
      refine o_move rfl rfl ?_
      refine o_eqlI rfl rfl rfl ?_
      refine o_loadBV agg23 sz23 (by repeat (first | exact Nth.z | apply Nth.s)) rfl rfl ?_
      refine o_loadBV agg23 sz23 (by repeat (first | exact Nth.z | apply Nth.s)) rfl rfl ?_
      refine o_eqlV flat23 rfl rfl rfl ?_
      refine o_neqB rfl Tryd.underlying4 rfl rfl ?_
      exact triL_nil (Piece.mk rfl rfl (.cons rfl (.cons rfl (.cons rfl (.nil _)))) (fun _ h => h))
    refine o_move rfl rfl ?_
    refine' triL_or [_, _] [(17, _), (15, _), (11, _)] (dj := 89) (dr := 91) rfl rfl (fun g6 => ?_) ⟨_, rfl, rfl, rfl, (.cons rfl (.cons rfl (.cons rfl (.nil _))))⟩ rfl ?_
    rotate_left
    · skip
      refine o_move rfl rfl ?_
      refine o_lss rfl rfl rfl ?_
      exact triL_nil (Piece.mk rfl rfl (.cons rfl (.cons rfl (.cons rfl (.nil _)))) (fun _ h => h))
    refine o_move rfl rfl ?_
    refine' triL_or [_, _] [(17, _), (15, _), (11, _)] (dj := 93) (dr := 95) rfl rfl (fun g7 => ?_) ⟨_, rfl, rfl, rfl, (.cons rfl (.cons rfl (.cons rfl (.nil _))))⟩ rfl ?_
    rotate_left
    · skip
      refine o_move rfl rfl ?_
      refine o_gtr rfl rfl rfl ?_
      exact triL_nil (Piece.mk rfl rfl (.cons rfl (.cons rfl (.cons rfl (.nil _)))) (fun _ h => h))
    refine triL_nil ?_
    refine thenQ_normal ?_
    refine tri_cond_false (congrArg (fun b : Bool => some (Value.bool b)) (by rw [qab, qba]; exact ord_b1 ma mb fa.1 fb.1)) ?_
    refine tri_skip ?_
    refine thenQ_normal ?_
    refine tri_seq ?_
    refine tri_region ?_
    refine o_move rfl rfl ?_
    refine o_gtr rfl rfl rfl ?_
    refine o_move rfl rfl ?_
    refine' triL_or [_, _] [(17, _), (15, _), (11, _)] (dj := 99) (dr := 101) rfl rfl (fun g8 => ?_) ⟨_, rfl, rfl, rfl, (.cons rfl (.cons rfl (.cons rfl (.nil _))))⟩ rfl ?_
    rotate_left
    · skip
      refine o_move rfl rfl ?_
      refine o_gtr rfl rfl rfl ?_
      exact triL_nil (Piece.mk rfl rfl (.cons rfl (.cons rfl (.cons rfl (.nil _)))) (fun _ h => h))
    refine o_move rfl rfl ?_
    refine' triL_or [_, _] [(17, _), (15, _), (11, _)] (dj := 103) (dr := 105) rfl rfl (fun g9 => ?_) ⟨_, rfl, rfl, rfl, (.cons rfl (.cons rfl (.cons rfl (.nil _))))⟩ rfl ?_
    rotate_left
    · skip
      refine o_move rfl rfl ?_
      refine o_leq rfl rfl rfl ?_
      exact triL_nil (Piece.mk rfl rfl (.cons rfl (.cons rfl (.cons rfl (.nil _)))) (fun _ h => h))
    refine o_move rfl rfl ?_
    refine' triL_and [_, _, _, _, _, _, _, _, _, _] [] (dj := 107) (dr := 117) rfl rfl (fun g10 => ?_) ⟨_, rfl, rfl, rfl, (.nil _)⟩ rfl ?_
    rotate_left
    · skip
      refine o_move rfl rfl ?_
      refine o_geq rfl rfl rfl ?_
      refine o_move rfl rfl ?_
      refine' triL_or [_, _] [(107, _), (17, _)] (dj := 110) (dr := 112) rfl rfl (fun g11 => ?_) ⟨_, rfl, rfl, rfl, (.cons rfl (.cons rfl (.nil _)))⟩ rfl ?_
      rotate_left
      · skip
        refine o_move rfl rfl ?_
        refine o_gtr rfl rfl rfl ?_
        exact triL_nil (Piece.mk rfl rfl (.cons rfl (.cons rfl (.nil _))) (fun _ h => h))
      refine o_move rfl rfl ?_
      refine' triL_or [_, _] [(107, _)] (dj := 114) (dr := 116) rfl rfl (fun g12 => ?_) ⟨_, rfl, rfl, rfl, (.cons rfl (.nil _))⟩ rfl ?_
      rotate_left
      · skip
        refine o_move rfl rfl ?_
        refine o_lss rfl rfl rfl ?_
        exact triL_nil (Piece.mk rfl rfl (.cons rfl (.nil _)) (fun _ h => h))
      exact triL_nil (Piece.mk rfl rfl (.nil _) (fun _ h => h))
    refine o_move rfl rfl ?_
    refine' triL_and [_] [] (dj := 119) (dr := 120) rfl rfl (fun g13 => ?_) ⟨_, rfl, rfl, rfl, (.nil _)⟩ rfl ?_
    rotate_left
    · skip
      refine o_callP (first := []) (cap := []) rfl rfl rfl Tryd.call16 (fun w_ hw_ => awakeK w_ (hL.chg hw_.chg)) ?_
      exact triL_nil (Piece.mk rfl rfl (.nil _) (fun _ h => h))
    refine o_assign rfl rfl ?_
    refine triL_nil ?_
    refine thenQ_normal ?_
    refine tri_ret ?_
    refine end1 rfl rfl ?_
    exact fun w1 hw1 => ⟨by rw [qab, qbc, qac, ord_b2 ma mb mc fa.1 fb.1 fc.1, Bool.true_and], hw1.chg⟩

theorem valueLogic (a b : Val) (w : World) (fa : fit a) (fb : fit b) (hL : LV w) : Calls Tryd.prog 7 #[aggV a, aggV b] w (Pure w (.bool true)) := by
  refine calls_tri (args := [aggV a, aggV b]) (lent := []) (H := []) Tryd.func7 rfl Tryd.ntmps7 rfl (Sat.start _ _ _ _) ?_
  refine (show Tri _ [(0, _), (1, _)] _ _ _ from ?_)
  refine tri_seq ?_
  refine tri_region ?_
  refine o_box (Val.cs _) rfl rfl rfl (fun b2 => ?_)
  refine o_box (Val.cs _) rfl rfl rfl (fun b3 => ?_)
  refine o_assign rfl rfl ?_
  refine triL_nil ?_
  refine thenQ_normal ?_
  refine tri_seq ?_
  refine tri_region ?_
  refine o_loadBV agg23 sz23 (by repeat (first | exact Nth.z | apply Nth.s)) rfl rfl ?_
  refine o_loadBV agg23 sz23 (by repeat (first | exact Nth.z | apply Nth.s)) rfl rfl ?_
  refine o_callP (first := []) (cap := []) rfl rfl rfl Tryd.call30 (fun w_ hw_ => andK _ _ w_ (by assumption) (by assumption)) ?_
  refine o_move rfl rfl ?_
  refine o_extract rfl rfl rfl ?_
  refine o_extract rfl rfl rfl ?_
  refine o_alloc (Val.cs Val.zero) rfl zero23 rfl (fun b5 => ?_)
  refine o_storeBV sz23 (by repeat (first | exact Nth.z | apply Nth.s)) rfl rfl rfl ?_
  refine o_assign rfl rfl ?_
  refine triL_nil ?_
  refine thenQ_normal ?_
  refine tri_seq ?_
  refine tri_slots [(6, _), (5, _), (3, _), (2, _)] (.cons rfl (.cons rfl (.cons rfl (.cons rfl (.nil _))))) ?_
  refine tri_region ?_
  refine o_loadBV agg23 sz23 (by repeat (first | exact Nth.z | apply Nth.s)) rfl rfl ?_
  refine o_loadBV agg23 sz23 (by repeat (first | exact Nth.z | apply Nth.s)) rfl rfl ?_
  refine o_callP (first := []) (cap := []) rfl rfl rfl Tryd.call31 (fun w_ hw_ => andR3 _ _ w_ (by assumption) (by assumption)) ?_
  refine o_move rfl rfl ?_
  refine o_extract rfl rfl rfl ?_
  refine o_extract rfl rfl rfl ?_
  refine o_alloc (Val.cs Val.zero) rfl zero23 rfl (fun b7 => ?_)
  refine o_storeBV sz23 (by repeat (first | exact Nth.z | apply Nth.s)) rfl rfl rfl ?_
  refine o_assign rfl rfl ?_
  refine triL_nil ?_
  refine thenQ_normal ?_
  refine tri_seq ?_
  refine tri_slots [(8, _), (7, _), (6, _), (5, _), (3, _), (2, _)] (.cons rfl (.cons rfl (.cons rfl (.cons rfl (.cons rfl (.cons rfl (.nil _))))))) ?_
  refine tri_region ?_
  refine o_loadBV agg23 sz23 (by repeat (first | exact Nth.z | apply Nth.s)) rfl rfl ?_
  refine o_loadBV agg23 sz23 (by repeat (first | exact Nth.z | apply Nth.s)) rfl rfl ?_
  refine o_callP (first := []) (cap := []) rfl rfl rfl Tryd.call32 (fun w_ hw_ => orK _ _ w_ (by assumption) (by assumption)) ?_
  refine o_move rfl rfl ?_
  refine o_extract rfl rfl rfl ?_
  refine o_extract rfl rfl rfl ?_
  refine o_alloc (Val.cs Val.zero) rfl zero23 rfl (fun b9 => ?_)
  refine o_storeBV sz23 (by repeat (first | exact Nth.z | apply Nth.s)) rfl rfl rfl ?_
  refine o_assign rfl rfl ?_
  refine triL_nil ?_
  refine thenQ_normal ?_
  refine tri_seq ?_
  refine tri_slots [(10, _), (9, _), (8, _), (7, _), (6, _), (5, _), (3, _), (2, _)] (.cons rfl (.cons rfl (.cons rfl (.cons rfl (.cons rfl (.cons rfl (.cons rfl (.cons rfl (.nil _))))))))) ?_
  refine tri_region ?_
  refine o_loadBV agg23 sz23 (by repeat (first | exact Nth.z | apply Nth.s)) rfl rfl ?_
  refine o_loadBV agg23 sz23 (by repeat (first | exact Nth.z | apply Nth.s)) rfl rfl ?_
  refine o_callP (first := []) (cap := []) rfl rfl rfl Tryd.call33 (fun w_ hw_ => orR3 _ _ w_ (by assumption) (by assumption)) ?_
  refine o_move rfl rfl ?_
  refine o_extract rfl rfl rfl ?_
  refine o_extract rfl rfl rfl ?_
  refine o_alloc (Val.cs Val.zero) rfl zero23 rfl (fun b11 => ?_)
  refine o_storeBV sz23 (by repeat (first | exact Nth.z | apply Nth.s)) rfl rfl rfl ?_
  refine o_assign rfl rfl ?_
  refine triL_nil ?_
  refine thenQ_normal ?_
  refine tri_seq ?_
  refine tri_slots [(12, _), (11, _), (10, _), (9, _), (8, _), (7, _), (6, _), (5, _), (2, _)] (.cons rfl (.cons rfl (.cons rfl (.cons rfl (.cons rfl (.cons rfl (.cons rfl (.cons rfl (.cons rfl (.nil _)))))))))) ?_
  refine tri_region ?_
  refine o_loadBV agg23 sz23 (by repeat (first | exact Nth.z | apply Nth.s)) rfl rfl ?_
  refine o_callP (first := []) (cap := []) rfl rfl rfl Tryd.call34 (fun w_ hw_ => notK _ w_ (by assumption)) ?_
  refine o_move rfl rfl ?_
  refine o_extract rfl rfl rfl ?_
  refine o_extract rfl rfl rfl ?_
  refine o_alloc (Val.cs Val.zero) rfl zero23 rfl (fun b13 => ?_)
  refine o_storeBV sz23 (by repeat (first | exact Nth.z | apply Nth.s)) rfl rfl rfl ?_
  refine o_assign rfl rfl ?_
  refine triL_nil ?_
  refine thenQ_normal ?_
  refine tri_seq ?_
  refine tri_slots [(14, _), (13, _), (12, _), (11, _), (10, _), (9, _), (8, _), (7, _), (6, _), (5, _), (2, _)] (.cons rfl (.cons rfl (.cons rfl (.cons rfl (.cons rfl (.cons rfl (.cons rfl (.cons rfl (.cons rfl (.cons rfl (.cons rfl (.nil _)))))))))))) ?_
  refine tri_region ?_
  refine o_loadBV agg23 sz23 (by repeat (first | exact Nth.z | apply Nth.s)) rfl rfl ?_
  refine o_callP (first := []) (cap := []) rfl rfl rfl Tryd.call35 (fun w_ hw_ => notR3 _ w_ (by assumption)) ?_
  refine o_move rfl rfl ?_
  refine o_extract rfl rfl rfl ?_
  refine o_extract rfl rfl rfl ?_
  refine o_alloc (Val.cs Val.zero) rfl zero23 rfl (fun b15 => ?_)
  refine o_storeBV sz23 (by repeat (first | exact Nth.z | apply Nth.s)) rfl rfl rfl ?_
  refine o_assign rfl rfl ?_
  refine triL_nil ?_
  refine thenQ_normal ?_
  refine tri_seq ?_
  refine tri_slots [(16, _), (15, _), (14, _), (13, _), (12, _), (11, _), (10, _), (9, _), (8, _), (7, _), (6, _), (5, _)] (.cons rfl (.cons rfl (.cons rfl (.cons rfl (.cons rfl (.cons rfl (.cons rfl (.cons rfl (.cons rfl (.cons rfl (.cons rfl (.cons rfl (.nil _))))))))))))) ?_
  refine tri_region ?_
  refine o_loadBV agg23 sz23 (by repeat (first | exact Nth.z | apply Nth.s)) rfl rfl ?_
  refine o_loadBV agg23 sz23 (by repeat (first | exact Nth.z | apply Nth.s)) rfl rfl ?_
  refine o_eqlV flat23 rfl rfl rfl ?_
  refine o_move rfl rfl ?_
  refine' triL_and [_, _, _] [(16, _), (15, _), (14, _), (13, _), (12, _), (11, _), (10, _), (9, _)] (dj := 54) (dr := 57) rfl rfl (fun g1 => ?_) ⟨_, rfl, rfl, rfl, (.cons rfl (.cons rfl (.cons rfl (.cons rfl (.cons rfl (.cons rfl (.cons rfl (.cons rfl (.nil _)))))))))⟩ rfl ?_
  rotate_left
  · skip
    refine o_move rfl rfl ?_
    refine o_move rfl rfl ?_
    refine o_eqlI rfl rfl rfl ?_
    exact triL_nil (Piece.mk rfl rfl (.cons rfl (.cons rfl (.cons rfl (.cons rfl (.cons rfl (.cons rfl (.cons rfl (.cons rfl (.nil _))))))))) (fun _ h => h))
  refine o_move rfl rfl ?_
  refine' triL_and [_, _, _] [(16, _), (15, _), (14, _), (13, _), (12, _), (10, _)] (dj := 59) (dr := 62) rfl rfl (fun g2 => ?_) ⟨_, rfl, rfl, rfl, (.cons rfl (.cons rfl (.cons rfl (.cons rfl (.cons rfl (.cons rfl (.nil _)))))))⟩ rfl ?_
  rotate_left
  · skip
    refine o_loadBV agg23 sz23 (by repeat (first | exact Nth.z | apply Nth.s)) rfl rfl ?_
    refine o_loadBV agg23 sz23 (by repeat (first | exact Nth.z | apply Nth.s)) rfl rfl ?_
    refine o_eqlV flat23 rfl rfl rfl ?_
    exact triL_nil (Piece.mk rfl rfl (.cons rfl (.cons rfl (.cons rfl (.cons rfl (.cons rfl (.cons rfl (.nil _))))))) (fun _ h => h))
  refine o_move rfl rfl ?_
  refine' triL_and [_, _, _] [(16, _), (15, _), (14, _), (13, _)] (dj := 64) (dr := 67) rfl rfl (fun g3 => ?_) ⟨_, rfl, rfl, rfl, (.cons rfl (.cons rfl (.cons rfl (.cons rfl (.nil _)))))⟩ rfl ?_
  rotate_left
  · skip
    refine o_move rfl rfl ?_
    refine o_move rfl rfl ?_
    refine o_eqlI rfl rfl rfl ?_
    exact triL_nil (Piece.mk rfl rfl (.cons rfl (.cons rfl (.cons rfl (.cons rfl (.nil _))))) (fun _ h => h))
  refine o_move rfl rfl ?_
  refine' triL_and [_, _, _] [(16, _), (14, _)] (dj := 69) (dr := 72) rfl rfl (fun g4 => ?_) ⟨_, rfl, rfl, rfl, (.cons rfl (.cons rfl (.nil _)))⟩ rfl ?_
  rotate_left
  · skip
    refine o_loadBV agg23 sz23 (by repeat (first | exact Nth.z | apply Nth.s)) rfl rfl ?_
    refine o_loadBV agg23 sz23 (by repeat (first | exact Nth.z | apply Nth.s)) rfl rfl ?_
    refine o_eqlV flat23 rfl rfl rfl ?_
    exact triL_nil (Piece.mk rfl rfl (.cons rfl (.cons rfl (.nil _))) (fun _ h => h))
  refine o_move rfl rfl ?_
  refine' triL_and [_, _, _] [] (dj := 74) (dr := 77) rfl rfl (fun g5 => ?_) ⟨_, rfl, rfl, rfl, (.nil _)⟩ rfl ?_
  rotate_left
  · skip
    refine o_move rfl rfl ?_
    refine o_move rfl rfl ?_
    refine o_eqlI rfl rfl rfl ?_
    exact triL_nil (Piece.mk rfl rfl (.nil _) (fun _ h => h))
  refine o_move rfl rfl ?_
  refine' triL_and [_] [] (dj := 79) (dr := 80) rfl rfl (fun g6 => ?_) ⟨_, rfl, rfl, rfl, (.nil _)⟩ rfl ?_
  rotate_left
  · skip
    refine o_callP (first := []) (cap := []) rfl rfl rfl Tryd.call16 (fun w_ hw_ => awakeK w_ (hL.chg hw_.chg)) ?_
    exact triL_nil (Piece.mk rfl rfl (.nil _) (fun _ h => h))
  refine o_assign rfl rfl ?_
  refine triL_nil ?_
  refine thenQ_normal ?_
  refine tri_ret ?_
  refine end1 rfl rfl ?_
  exact fun w1 hw1 => ⟨by simp, hw1.chg⟩

theorem three_b (a b : Val) : (decide ((held pkLt a b).2 ≠ (held pkGe a b).2) || (decide ((held pkLt a b).2 = 0) && (decide ((notV (held pkLt a b).1).2 ≠ 0) || !decide ((notV (held pkLt a b).1).1 = (held pkGe a b).1)))) = false := by
  rw [held_code pkLt pkGe]
  by_cases h : (held pkGe a b).2 = 0
  · have hn := not_held (p := pkLt) (q := pkGe) (fun c => by unfold pkGe pkLt; by_cases h : c < 0 <;> simp [h] <;> omega) (a := a) (b := b) (by rw [held_code pkLt pkGe]; exact h)
    rw [hn]
    simp
  · simp [h]
theorem morgan_b {a b : Val} (h : allE 3 [a, b] = 0) : ((decide ((orV (notV a).1 (notV b).1).2 ≠ 0) || decide ((notV (andV a b).1).2 ≠ 0)) || !decide ((orV (notV a).1 (notV b).1).1 = (notV (andV a b).1).1)) = false := by
  obtain ⟨h1, h2⟩ := de_morgan h
  rw [h1, h2]
  simp

theorem valueThree (a b c : Val) (w : World) (fa : fit a) (fb : fit b) (fc : fit c) (hL : LV w) : Calls Tryd.prog 8 #[aggV a, aggV b, aggV c] w (Pure w (.bool true)) := by
  refine calls_tri (args := [aggV a, aggV b, aggV c]) (lent := []) (H := []) Tryd.func8 rfl Tryd.ntmps8 rfl (Sat.start _ _ _ _) ?_
  refine (show Tri _ [(0, _), (1, _), (2, _)] _ _ _ from ?_)
  have f1 := fit_held pkLt a b
  have f2 := fit_not a
  have f3 := fit_not b
  have f4 := fit_and a b
  have f5 := fit_and b c
  refine tri_seq ?_
  refine tri_region ?_
  refine o_box (Val.cs _) rfl rfl rfl (fun b3 => ?_)
  refine o_box (Val.cs _) rfl rfl rfl (fun b4 => ?_)
  refine o_box (Val.cs _) rfl rfl rfl (fun b5 => ?_)
  refine o_assign rfl rfl ?_
  refine triL_nil ?_
  refine thenQ_normal ?_
  refine tri_seq ?_
  refine tri_slots [(5, _), (4, _), (3, _)] (.cons rfl (.cons rfl (.cons rfl (.nil _)))) ?_
  refine tri_region ?_
  refine o_loadBV agg23 sz23 (by repeat (first | exact Nth.z | apply Nth.s)) rfl rfl ?_
  refine o_loadBV agg23 sz23 (by repeat (first | exact Nth.z | apply Nth.s)) rfl rfl ?_
  refine o_callP (first := []) (cap := []) rfl rfl rfl Tryd.call25 (fun w_ hw_ => kLt _ _ w_ (by assumption) (by assumption)) ?_
  refine o_move rfl rfl ?_
  refine o_extract rfl rfl rfl ?_
  refine o_extract rfl rfl rfl ?_
  refine o_alloc (Val.cs Val.zero) rfl zero23 rfl (fun b7 => ?_)
  refine o_storeBV sz23 (by repeat (first | exact Nth.z | apply Nth.s)) rfl rfl rfl ?_
  refine o_assign rfl rfl ?_
  refine triL_nil ?_
  refine thenQ_normal ?_
  refine tri_seq ?_
  refine tri_slots [(8, _), (7, _), (5, _), (4, _), (3, _)] (.cons rfl (.cons rfl (.cons rfl (.cons rfl (.cons rfl (.nil _)))))) ?_
  refine tri_region ?_
  refine o_loadBV agg23 sz23 (by repeat (first | exact Nth.z | apply Nth.s)) rfl rfl ?_
  refine o_loadBV agg23 sz23 (by repeat (first | exact Nth.z | apply Nth.s)) rfl rfl ?_
  refine o_callP (first := []) (cap := []) rfl rfl rfl Tryd.call28 (fun w_ hw_ => kGe _ _ w_ (by assumption) (by assumption)) ?_
  refine o_move rfl rfl ?_
  refine o_extract rfl rfl rfl ?_
  refine o_extract rfl rfl rfl ?_
  refine o_alloc (Val.cs Val.zero) rfl zero23 rfl (fun b9 => ?_)
  refine o_storeBV sz23 (by repeat (first | exact Nth.z | apply Nth.s)) rfl rfl rfl ?_
  refine o_assign rfl rfl ?_
  refine triL_nil ?_
  refine thenQ_normal ?_
  refine tri_seq ?_
  refine tri_slots [(10, _), (9, _), (8, _), (7, _), (5, _), (4, _), (3, _)] (.cons rfl (.cons rfl (.cons rfl (.cons rfl (.cons rfl (.cons rfl (.cons rfl (.nil _)))))))) ?_
  refine tri_region ?_
  refine o_loadBV agg23 sz23 (by repeat (first | exact Nth.z | apply Nth.s)) rfl rfl ?_
  refine o_callP (first := []) (cap := []) rfl rfl rfl Tryd.call34 (fun w_ hw_ => notK _ w_ (by assumption)) ?_
  refine o_move rfl rfl ?_
  refine o_extract rfl rfl rfl ?_
  refine o_extract rfl rfl rfl ?_
  refine o_alloc (Val.cs Val.zero) rfl zero23 rfl (fun b11 => ?_)
  refine o_storeBV sz23 (by repeat (first | exact Nth.z | apply Nth.s)) rfl rfl rfl ?_
  refine o_assign rfl rfl ?_
  refine triL_nil ?_
  refine thenQ_normal ?_
  refine tri_seq ?_
  refine tri_seq ?_
  refine tri_slots [(12, _), (11, _), (10, _), (9, _), (8, _), (5, _), (4, _), (3, _)] (.cons rfl (.cons rfl (.cons rfl (.cons rfl (.cons rfl (.cons rfl (.cons rfl (.cons rfl (.nil _))))))))) ?_
  refine tri_region ?_
  refine o_move rfl rfl ?_
  refine o_move rfl rfl ?_
  refine o_neqI rfl rfl rfl ?_
  refine o_move rfl rfl ?_
  refine' triL_or [_, _, _, _, _, _, _, _, _, _, _] [(5, _), (4, _), (3, _)] (dj := 51) (dr := 62) rfl rfl (fun g1 => ?_) ⟨_, rfl, rfl, rfl, (.cons rfl (.cons rfl (.cons rfl (.nil _))))⟩ rfl ?_
  rotate_left
  · skip
    refine o_move rfl rfl ?_
    refine o_eqlI rfl rfl rfl ?_
    refine o_move rfl rfl ?_
    refine' triL_and [_, _, _, _, _, _, _] [(51, _), (5, _), (4, _), (3, _)] (dj := 54) (dr := 61) rfl rfl (fun g2 => ?_) ⟨_, rfl, rfl, rfl, (.cons rfl (.cons rfl (.cons rfl (.cons rfl (.nil _)))))⟩ rfl ?_
    rotate_left
    · skip
      refine o_move rfl rfl ?_
      refine o_neqI rfl rfl rfl ?_
      refine o_move rfl rfl ?_
      refine' triL_or [_, _, _] [(54, _), (51, _), (5, _), (4, _), (3, _)] (dj := 57) (dr := 60) rfl rfl (fun g3 => ?_) ⟨_, rfl, rfl, rfl, (.cons rfl (.cons rfl (.cons rfl (.cons rfl (.cons rfl (.nil _))))))⟩ rfl ?_
      rotate_left
      · skip
        refine o_loadBV agg23 sz23 (by repeat (first | exact Nth.z | apply Nth.s)) rfl rfl ?_
        refine o_loadBV agg23 sz23 (by repeat (first | exact Nth.z | apply Nth.s)) rfl rfl ?_
        refine o_neqV flat23 rfl rfl rfl ?_
        exact triL_nil (Piece.mk rfl rfl (.cons rfl (.cons rfl (.cons rfl (.cons rfl (.cons rfl (.nil _)))))) (fun _ h => h))
      exact triL_nil (Piece.mk rfl rfl (.cons rfl (.cons rfl (.cons rfl (.cons rfl (.nil _))))) (fun _ h => h))
    exact triL_nil (Piece.mk rfl rfl (.cons rfl (.cons rfl (.cons rfl (.nil _)))) (fun _ h => h))
  refine triL_nil ?_
  refine thenQ_normal ?_
  refine tri_cond_false (congrArg (fun b : Bool => some (Value.bool b)) (by exact three_b a b)) ?_
  refine tri_skip ?_
  refine thenQ_normal ?_
  refine tri_seq ?_
  refine tri_region ?_
  refine o_loadBV agg23 sz23 (by repeat (first | exact Nth.z | apply Nth.s)) rfl rfl ?_
  refine o_loadBV agg23 sz23 (by repeat (first | exact Nth.z | apply Nth.s)) rfl rfl ?_
  refine o_callP (first := []) (cap := []) rfl rfl rfl Tryd.call30 (fun w_ hw_ => andK _ _ w_ (by assumption) (by assumption)) ?_
  refine o_move rfl rfl ?_
  refine o_extract rfl rfl rfl ?_
  refine o_extract rfl rfl rfl ?_
  refine o_alloc (Val.cs Val.zero) rfl zero23 rfl (fun b13 => ?_)
  refine o_storeBV sz23 (by repeat (first | exact Nth.z | apply Nth.s)) rfl rfl rfl ?_
  refine o_assign rfl rfl ?_
  refine triL_nil ?_
  refine thenQ_normal ?_
  refine tri_seq ?_
  refine tri_slots [(14, _), (13, _), (5, _), (4, _), (3, _)] (.cons rfl (.cons rfl (.cons rfl (.cons rfl (.cons rfl (.nil _)))))) ?_
  refine tri_region ?_
  refine o_loadBV agg23 sz23 (by repeat (first | exact Nth.z | apply Nth.s)) rfl rfl ?_
  refine o_loadBV agg23 sz23 (by repeat (first | exact Nth.z | apply Nth.s)) rfl rfl ?_
  refine o_callP (first := []) (cap := []) rfl rfl rfl Tryd.call30 (fun w_ hw_ => andK _ _ w_ (by assumption) (by assumption)) ?_
  refine o_move rfl rfl ?_
  refine o_extract rfl rfl rfl ?_
  refine o_extract rfl rfl rfl ?_
  refine o_alloc (Val.cs Val.zero) rfl zero23 rfl (fun b15 => ?_)
  refine o_storeBV sz23 (by repeat (first | exact Nth.z | apply Nth.s)) rfl rfl rfl ?_
  refine o_assign rfl rfl ?_
  refine triL_nil ?_
  refine thenQ_normal ?_
  refine tri_seq ?_
  refine tri_seq ?_
  refine tri_slots [(16, _), (15, _), (14, _), (13, _), (5, _), (4, _), (3, _)] (.cons rfl (.cons rfl (.cons rfl (.cons rfl (.cons rfl (.cons rfl (.cons rfl (.nil _)))))))) ?_
  refine tri_region ?_
  refine o_move rfl rfl ?_
  refine o_move rfl rfl ?_
  refine o_neqI rfl rfl rfl ?_
  refine o_move rfl rfl ?_
  refine' triL_or [_, _, _] [(14, _), (13, _), (5, _), (4, _), (3, _)] (dj := 79) (dr := 82) rfl rfl (fun g4 => ?_) ⟨_, rfl, rfl, rfl, (.cons rfl (.cons rfl (.cons rfl (.cons rfl (.cons rfl (.nil _))))))⟩ rfl ?_
  rotate_left
  · skip
    refine o_loadBV agg23 sz23 (by repeat (first | exact Nth.z | apply Nth.s)) rfl rfl ?_
    refine o_loadBV agg23 sz23 (by repeat (first | exact Nth.z | apply Nth.s)) rfl rfl ?_
    refine o_neqV flat23 rfl rfl rfl ?_
    exact triL_nil (Piece.mk rfl rfl (.cons rfl (.cons rfl (.cons rfl (.cons rfl (.cons rfl (.nil _)))))) (fun _ h => h))
  refine triL_nil ?_
  refine thenQ_normal ?_
  refine tri_cond_false (congrArg (fun b : Bool => some (Value.bool b)) (by rw [and_comm' b a]; simp)) ?_
  refine tri_skip ?_
  refine thenQ_normal ?_
  refine tri_seq ?_
  refine tri_seq ?_
  refine tri_region ?_
  refine o_move rfl rfl ?_
  refine o_neqI rfl rfl rfl ?_
  refine triL_nil ?_
  refine thenQ_normal ?_
  refine tri_if rfl (fun h2 => ?_) (fun h2 => ?_)
  · skip
    refine tri_seq ?_
    refine tri_slots [] (.nil _) ?_
    refine tri_region ?_
    refine o_callP (first := []) (cap := []) rfl rfl rfl Tryd.call16 (fun w_ hw_ => awakeK w_ (hL.chg hw_.chg)) ?_
    refine o_assign rfl rfl ?_
    refine triL_nil ?_
    refine thenQ_normal ?_
    refine tri_ret ?_
    refine thenQ_ret ?_
    refine end1 rfl rfl ?_
    exact fin_pure
  · skip
    have h2 : (andV a b).2 = 0 := Decidable.not_not.1 h2
    rw [and_code] at h2
    refine tri_skip ?_
    refine thenQ_normal ?_
    refine tri_seq ?_
    refine tri_slots [(13, _), (5, _), (4, _), (3, _)] (.cons rfl (.cons rfl (.cons rfl (.cons rfl (.nil _))))) ?_
    refine tri_region ?_
    refine o_loadBV agg23 sz23 (by repeat (first | exact Nth.z | apply Nth.s)) rfl rfl ?_
    refine o_callP (first := []) (cap := []) rfl rfl rfl Tryd.call34 (fun w_ hw_ => notK _ w_ (by assumption)) ?_
    refine o_move rfl rfl ?_
    refine o_extract rfl rfl rfl ?_
    refine o_extract rfl rfl rfl ?_
    refine o_alloc (Val.cs Val.zero) rfl zero23 rfl (fun b17 => ?_)
    refine o_storeBV sz23 (by repeat (first | exact Nth.z | apply Nth.s)) rfl rfl rfl ?_
    refine o_assign rfl rfl ?_
    refine triL_nil ?_
    refine thenQ_normal ?_
    refine tri_seq ?_
    refine tri_slots [(17, _), (13, _), (5, _), (4, _), (3, _)] (.cons rfl (.cons rfl (.cons rfl (.cons rfl (.cons rfl (.nil _)))))) ?_
    refine tri_region ?_
    refine o_loadBV agg23 sz23 (by repeat (first | exact Nth.z | apply Nth.s)) rfl rfl ?_
    refine o_callP (first := []) (cap := []) rfl rfl rfl Tryd.call34 (fun w_ hw_ => notK _ w_ (by assumption)) ?_
    refine o_move rfl rfl ?_
    refine o_extract rfl rfl rfl ?_
    refine o_extract rfl rfl rfl ?_
    refine o_alloc (Val.cs Val.zero) rfl zero23 rfl (fun b19 => ?_)
    refine o_storeBV sz23 (by repeat (first | exact Nth.z | apply Nth.s)) rfl rfl rfl ?_
    refine o_assign rfl rfl ?_
    refine triL_nil ?_
    refine thenQ_normal ?_
    refine tri_seq ?_
    refine tri_slots [(19, _), (17, _), (13, _), (5, _), (4, _), (3, _)] (.cons rfl (.cons rfl (.cons rfl (.cons rfl (.cons rfl (.cons rfl (.nil _))))))) ?_
    refine tri_region ?_
    refine o_loadBV agg23 sz23 (by repeat (first | exact Nth.z | apply Nth.s)) rfl rfl ?_
    refine o_loadBV agg23 sz23 (by repeat (first | exact Nth.z | apply Nth.s)) rfl rfl ?_
    refine o_callP (first := []) (cap := []) rfl rfl rfl Tryd.call32 (fun w_ hw_ => orK _ _ w_ (by assumption) (by assumption)) ?_
    refine o_move rfl rfl ?_
    refine o_extract rfl rfl rfl ?_
    refine o_extract rfl rfl rfl ?_
    refine o_alloc (Val.cs Val.zero) rfl zero23 rfl (fun b21 => ?_)
    refine o_storeBV sz23 (by repeat (first | exact Nth.z | apply Nth.s)) rfl rfl rfl ?_
    refine o_assign rfl rfl ?_
    refine triL_nil ?_
    refine thenQ_normal ?_
    refine tri_seq ?_
    refine tri_slots [(22, _), (21, _), (13, _), (5, _), (4, _), (3, _)] (.cons rfl (.cons rfl (.cons rfl (.cons rfl (.cons rfl (.cons rfl (.nil _))))))) ?_
    refine tri_region ?_
    refine o_loadBV agg23 sz23 (by repeat (first | exact Nth.z | apply Nth.s)) rfl rfl ?_
    refine o_callP (first := []) (cap := []) rfl rfl rfl Tryd.call34 (fun w_ hw_ => notK _ w_ (by assumption)) ?_
    refine o_move rfl rfl ?_
    refine o_extract rfl rfl rfl ?_
    refine o_extract rfl rfl rfl ?_
    refine o_alloc (Val.cs Val.zero) rfl zero23 rfl (fun b23 => ?_)
    refine o_storeBV sz23 (by repeat (first | exact Nth.z | apply Nth.s)) rfl rfl rfl ?_
    refine o_assign rfl rfl ?_
    refine triL_nil ?_
    refine thenQ_normal ?_
    refine tri_seq ?_
    refine tri_seq ?_
    refine tri_slots [(24, _), (23, _), (22, _), (21, _), (13, _), (5, _), (4, _), (3, _)] (.cons rfl (.cons rfl (.cons rfl (.cons rfl (.cons rfl (.cons rfl (.cons rfl (.cons rfl (.nil _))))))))) ?_
    refine tri_region ?_
    refine o_move rfl rfl ?_
    refine o_neqI rfl rfl rfl ?_
    refine o_move rfl rfl ?_
    refine' triL_or [_, _] [(23, _), (21, _), (13, _), (5, _), (4, _), (3, _)] (dj := 110) (dr := 112) rfl rfl (fun g5 => ?_) ⟨_, rfl, rfl, rfl, (.cons rfl (.cons rfl (.cons rfl (.cons rfl (.cons rfl (.cons rfl (.nil _)))))))⟩ rfl ?_
    rotate_left
    · skip
      refine o_move rfl rfl ?_
      refine o_neqI rfl rfl rfl ?_
      exact triL_nil (Piece.mk rfl rfl (.cons rfl (.cons rfl (.cons rfl (.cons rfl (.cons rfl (.cons rfl (.nil _))))))) (fun _ h => h))
    refine o_move rfl rfl ?_
    refine' triL_or [_, _, _] [(13, _), (5, _), (4, _), (3, _)] (dj := 114) (dr := 117) rfl rfl (fun g6 => ?_) ⟨_, rfl, rfl, rfl, (.cons rfl (.cons rfl (.cons rfl (.cons rfl (.nil _)))))⟩ rfl ?_
    rotate_left
    · skip
      refine o_loadBV agg23 sz23 (by repeat (first | exact Nth.z | apply Nth.s)) rfl rfl ?_
      refine o_loadBV agg23 sz23 (by repeat (first | exact Nth.z | apply Nth.s)) rfl rfl ?_
      refine o_neqV flat23 rfl rfl rfl ?_
      exact triL_nil (Piece.mk rfl rfl (.cons rfl (.cons rfl (.cons rfl (.cons rfl (.nil _))))) (fun _ h => h))
    refine triL_nil ?_
    refine thenQ_normal ?_
    refine tri_cond_false (congrArg (fun b : Bool => some (Value.bool b)) (by exact morgan_b h2)) ?_
    refine tri_skip ?_
    refine thenQ_normal ?_
    refine tri_seq ?_
    refine tri_region ?_
    refine o_loadBV agg23 sz23 (by repeat (first | exact Nth.z | apply Nth.s)) rfl rfl ?_
    refine o_loadBV agg23 sz23 (by repeat (first | exact Nth.z | apply Nth.s)) rfl rfl ?_
    refine o_callP (first := []) (cap := []) rfl rfl rfl Tryd.call30 (fun w_ hw_ => andK _ _ w_ (by assumption) (by assumption)) ?_
    refine o_move rfl rfl ?_
    refine o_extract rfl rfl rfl ?_
    refine o_extract rfl rfl rfl ?_
    refine o_alloc (Val.cs Val.zero) rfl zero23 rfl (fun b25 => ?_)
    refine o_storeBV sz23 (by repeat (first | exact Nth.z | apply Nth.s)) rfl rfl rfl ?_
    refine o_assign rfl rfl ?_
    refine triL_nil ?_
    refine thenQ_normal ?_
    refine tri_seq ?_
    refine tri_seq ?_
    refine tri_slots [(26, _), (25, _), (13, _), (5, _), (3, _)] (.cons rfl (.cons rfl (.cons rfl (.cons rfl (.cons rfl (.nil _)))))) ?_
    refine tri_region ?_
    refine o_move rfl rfl ?_
    refine o_neqI rfl rfl rfl ?_
    refine triL_nil ?_
    refine thenQ_normal ?_
    refine tri_if rfl (fun h4 => ?_) (fun h4 => ?_)
    · skip
      refine tri_seq ?_
      refine tri_slots [] (.nil _) ?_
      refine tri_region ?_
      refine o_callP (first := []) (cap := []) rfl rfl rfl Tryd.call16 (fun w_ hw_ => awakeK w_ (hL.chg hw_.chg)) ?_
      refine o_assign rfl rfl ?_
      refine triL_nil ?_
      refine thenQ_normal ?_
      refine tri_ret ?_
      refine thenQ_ret ?_
      refine end1 rfl rfl ?_
      exact fin_pure
    · skip
      have h4 : (andV b c).2 = 0 := Decidable.not_not.1 h4
      rw [and_code] at h4
      refine tri_skip ?_
      refine thenQ_normal ?_
      refine tri_seq ?_
      refine tri_region ?_
      refine o_loadBV agg23 sz23 (by repeat (first | exact Nth.z | apply Nth.s)) rfl rfl ?_
      refine o_loadBV agg23 sz23 (by repeat (first | exact Nth.z | apply Nth.s)) rfl rfl ?_
      refine o_callP (first := []) (cap := []) rfl rfl rfl Tryd.call30 (fun w_ hw_ => andK _ _ w_ (by assumption) (by assumption)) ?_
      refine o_move rfl rfl ?_
      refine o_extract rfl rfl rfl ?_
      refine o_extract rfl rfl rfl ?_
      refine o_alloc (Val.cs Val.zero) rfl zero23 rfl (fun b27 => ?_)
      refine o_storeBV sz23 (by repeat (first | exact Nth.z | apply Nth.s)) rfl rfl rfl ?_
      refine o_assign rfl rfl ?_
      refine triL_nil ?_
      refine thenQ_normal ?_
      refine tri_seq ?_
      refine tri_slots [(27, _), (25, _), (3, _)] (.cons rfl (.cons rfl (.cons rfl (.nil _)))) ?_
      refine tri_region ?_
      refine o_loadBV agg23 sz23 (by repeat (first | exact Nth.z | apply Nth.s)) rfl rfl ?_
      refine o_loadBV agg23 sz23 (by repeat (first | exact Nth.z | apply Nth.s)) rfl rfl ?_
      refine o_callP (first := []) (cap := []) rfl rfl rfl Tryd.call30 (fun w_ hw_ => andK _ _ w_ (by assumption) (by assumption)) ?_
      refine o_move rfl rfl ?_
      refine o_extract rfl rfl rfl ?_
      refine o_extract rfl rfl rfl ?_
      refine o_alloc (Val.cs Val.zero) rfl zero23 rfl (fun b29 => ?_)
      refine o_storeBV sz23 (by repeat (first | exact Nth.z | apply Nth.s)) rfl rfl rfl ?_
      refine o_assign rfl rfl ?_
      refine triL_nil ?_
      refine thenQ_normal ?_
      refine tri_seq ?_
      refine tri_slots [(29, _), (27, _)] (.cons rfl (.cons rfl (.nil _))) ?_
      refine tri_region ?_
      refine o_loadBV agg23 sz23 (by repeat (first | exact Nth.z | apply Nth.s)) rfl rfl ?_
      refine o_loadBV agg23 sz23 (by repeat (first | exact Nth.z | apply Nth.s)) rfl rfl ?_
      refine o_eqlV flat23 rfl rfl rfl ?_
      refine o_move rfl rfl ?_
      refine' triL_and [_] [] (dj := 143) (dr := 144) rfl rfl (fun g7 => ?_) ⟨_, rfl, rfl, rfl, (.nil _)⟩ rfl ?_
      rotate_left
      · skip
        refine o_callP (first := []) (cap := []) rfl rfl rfl Tryd.call16 (fun w_ hw_ => awakeK w_ (hL.chg hw_.chg)) ?_
        exact triL_nil (Piece.mk rfl rfl (.nil _) (fun _ h => h))
      refine o_assign rfl rfl ?_
      refine triL_nil ?_
      refine thenQ_normal ?_
      refine tri_ret ?_
      refine end1 rfl rfl ?_
      exact fun w1 hw1 => ⟨by rw [and_assoc' h2 h4]; simp, hw1.chg⟩

def intsV (l : List Int) : List Value := l.map (Value.int .i64)
theorem intsV_get (l : List Int) (k j : Nat) (h : j = k) (hk : k < l.length) : (intsV l)[j]? = some (.int .i64 (l.getD k 0)) := by
  subst h
  simp [intsV, List.getD, hk]
def six (a b : Val) : List (Val × Int) := [held pkEq a b, held pkNe a b, held pkLt a b, held pkLe a b, held pkGt a b, held pkGe a b]
def five (a b : Val) : List (Val × Int) := [reck addF a b, reck subF a b, reck mulF a b, reckZ divF a b, reckZ modF a b]
theorem six_at (a b : Val) : ∀ i : Nat, i < 6 → ((six a b).map (·.1)).getD i Val.zero = (held (pR i) a b).1 ∧ ((six a b).map (·.2)).getD i 0 = (held (pR i) a b).2
  | 0, _ => ⟨rfl, rfl⟩
  | 1, _ => ⟨rfl, rfl⟩
  | 2, _ => ⟨rfl, rfl⟩
  | 3, _ => ⟨rfl, rfl⟩
  | 4, _ => ⟨rfl, rfl⟩
  | 5, _ => ⟨rfl, rfl⟩
  | i + 6, h => absurd h (by omega)
theorem five_at {a b : Val} (fa : fit a) (fb : fit b) (i : Nat) (hi : i < 5) : ((five a b).map (·.1)).getD i Val.zero = (rcR i a b).1 ∧ ((five a b).map (·.2)).getD i 0 = (rcR i a b).2 := by
  rw [rc_eq (by omega) fa fb]
  match i, hi with
  | 0, _ => exact ⟨rfl, rfl⟩
  | 1, _ => exact ⟨rfl, rfl⟩
  | 2, _ => exact ⟨rfl, rfl⟩
  | 3, _ => exact ⟨rfl, rfl⟩
  | 4, _ => exact ⟨rfl, rfl⟩

theorem valueHolds (a b : Val) (w : World) (fa : fit a) (fb : fit b) (hL : LV w) : Calls Tryd.prog 6 #[aggV a, aggV b] w (Pure w (.bool true)) := by
  refine calls_tri (args := [aggV a, aggV b]) (lent := []) (H := []) Tryd.func6 rfl Tryd.ntmps6 rfl (Sat.start _ _ _ _) ?_
  refine (show Tri _ [(0, _), (1, _)] _ _ _ from ?_)
  refine tri_seq ?_
  refine tri_region ?_
  refine o_box (Val.cs _) rfl rfl rfl (fun b2 => ?_)
  refine o_box (Val.cs _) rfl rfl rfl (fun b3 => ?_)
  refine o_assign rfl rfl ?_
  refine triL_nil ?_
  refine thenQ_normal ?_
  refine tri_seq ?_
  refine tri_region ?_
  refine o_loadBV agg23 sz23 (by repeat (first | exact Nth.z | apply Nth.s)) rfl rfl ?_
  refine o_loadBV agg23 sz23 (by repeat (first | exact Nth.z | apply Nth.s)) rfl rfl ?_
  refine o_callP (first := []) (cap := []) rfl rfl rfl Tryd.call23 (fun w_ hw_ => kEq _ _ w_ (by assumption) (by assumption)) ?_
  refine o_move rfl rfl ?_
  refine o_extract rfl rfl rfl ?_
  refine o_extract rfl rfl rfl ?_
  refine o_alloc (Val.cs Val.zero) rfl zero23 rfl (fun b5 => ?_)
  refine o_storeBV sz23 (by repeat (first | exact Nth.z | apply Nth.s)) rfl rfl rfl ?_
  refine o_assign rfl rfl ?_
  refine triL_nil ?_
  refine thenQ_normal ?_
  refine tri_seq ?_
  refine tri_slots [(6, _), (5, _), (3, _), (2, _)] (.cons rfl (.cons rfl (.cons rfl (.cons rfl (.nil _))))) ?_
  refine tri_region ?_
  refine o_loadBV agg23 sz23 (by repeat (first | exact Nth.z | apply Nth.s)) rfl rfl ?_
  refine o_loadBV agg23 sz23 (by repeat (first | exact Nth.z | apply Nth.s)) rfl rfl ?_
  refine o_callP (first := []) (cap := []) rfl rfl rfl Tryd.call24 (fun w_ hw_ => kNe _ _ w_ (by assumption) (by assumption)) ?_
  refine o_move rfl rfl ?_
  refine o_extract rfl rfl rfl ?_
  refine o_extract rfl rfl rfl ?_
  refine o_alloc (Val.cs Val.zero) rfl zero23 rfl (fun b7 => ?_)
  refine o_storeBV sz23 (by repeat (first | exact Nth.z | apply Nth.s)) rfl rfl rfl ?_
  refine o_assign rfl rfl ?_
  refine triL_nil ?_
  refine thenQ_normal ?_
  refine tri_seq ?_
  refine tri_slots [(8, _), (7, _), (6, _), (5, _), (3, _), (2, _)] (.cons rfl (.cons rfl (.cons rfl (.cons rfl (.cons rfl (.cons rfl (.nil _))))))) ?_
  refine tri_region ?_
  refine o_loadBV agg23 sz23 (by repeat (first | exact Nth.z | apply Nth.s)) rfl rfl ?_
  refine o_loadBV agg23 sz23 (by repeat (first | exact Nth.z | apply Nth.s)) rfl rfl ?_
  refine o_callP (first := []) (cap := []) rfl rfl rfl Tryd.call25 (fun w_ hw_ => kLt _ _ w_ (by assumption) (by assumption)) ?_
  refine o_move rfl rfl ?_
  refine o_extract rfl rfl rfl ?_
  refine o_extract rfl rfl rfl ?_
  refine o_alloc (Val.cs Val.zero) rfl zero23 rfl (fun b9 => ?_)
  refine o_storeBV sz23 (by repeat (first | exact Nth.z | apply Nth.s)) rfl rfl rfl ?_
  refine o_assign rfl rfl ?_
  refine triL_nil ?_
  refine thenQ_normal ?_
  refine tri_seq ?_
  refine tri_slots [(10, _), (9, _), (8, _), (7, _), (6, _), (5, _), (3, _), (2, _)] (.cons rfl (.cons rfl (.cons rfl (.cons rfl (.cons rfl (.cons rfl (.cons rfl (.cons rfl (.nil _))))))))) ?_
  refine tri_region ?_
  refine o_loadBV agg23 sz23 (by repeat (first | exact Nth.z | apply Nth.s)) rfl rfl ?_
  refine o_loadBV agg23 sz23 (by repeat (first | exact Nth.z | apply Nth.s)) rfl rfl ?_
  refine o_callP (first := []) (cap := []) rfl rfl rfl Tryd.call26 (fun w_ hw_ => kLe _ _ w_ (by assumption) (by assumption)) ?_
  refine o_move rfl rfl ?_
  refine o_extract rfl rfl rfl ?_
  refine o_extract rfl rfl rfl ?_
  refine o_alloc (Val.cs Val.zero) rfl zero23 rfl (fun b11 => ?_)
  refine o_storeBV sz23 (by repeat (first | exact Nth.z | apply Nth.s)) rfl rfl rfl ?_
  refine o_assign rfl rfl ?_
  refine triL_nil ?_
  refine thenQ_normal ?_
  refine tri_seq ?_
  refine tri_slots [(12, _), (11, _), (10, _), (9, _), (8, _), (7, _), (6, _), (5, _), (3, _), (2, _)] (.cons rfl (.cons rfl (.cons rfl (.cons rfl (.cons rfl (.cons rfl (.cons rfl (.cons rfl (.cons rfl (.cons rfl (.nil _))))))))))) ?_
  refine tri_region ?_
  refine o_loadBV agg23 sz23 (by repeat (first | exact Nth.z | apply Nth.s)) rfl rfl ?_
  refine o_loadBV agg23 sz23 (by repeat (first | exact Nth.z | apply Nth.s)) rfl rfl ?_
  refine o_callP (first := []) (cap := []) rfl rfl rfl Tryd.call27 (fun w_ hw_ => kGt _ _ w_ (by assumption) (by assumption)) ?_
  refine o_move rfl rfl ?_
  refine o_extract rfl rfl rfl ?_
  refine o_extract rfl rfl rfl ?_
  refine o_alloc (Val.cs Val.zero) rfl zero23 rfl (fun b13 => ?_)
  refine o_storeBV sz23 (by repeat (first | exact Nth.z | apply Nth.s)) rfl rfl rfl ?_
  refine o_assign rfl rfl ?_
  refine triL_nil ?_
  refine thenQ_normal ?_
  refine tri_seq ?_
  refine tri_slots [(14, _), (13, _), (12, _), (11, _), (10, _), (9, _), (8, _), (7, _), (6, _), (5, _), (3, _), (2, _)] (.cons rfl (.cons rfl (.cons rfl (.cons rfl (.cons rfl (.cons rfl (.cons rfl (.cons rfl (.cons rfl (.cons rfl (.cons rfl (.cons rfl (.nil _))))))))))))) ?_
  refine tri_region ?_
  refine o_loadBV agg23 sz23 (by repeat (first | exact Nth.z | apply Nth.s)) rfl rfl ?_
  refine o_loadBV agg23 sz23 (by repeat (first | exact Nth.z | apply Nth.s)) rfl rfl ?_
  refine o_callP (first := []) (cap := []) rfl rfl rfl Tryd.call28 (fun w_ hw_ => kGe _ _ w_ (by assumption) (by assumption)) ?_
  refine o_move rfl rfl ?_
  refine o_extract rfl rfl rfl ?_
  refine o_extract rfl rfl rfl ?_
  refine o_alloc (Val.cs Val.zero) rfl zero23 rfl (fun b15 => ?_)
  refine o_storeBV sz23 (by repeat (first | exact Nth.z | apply Nth.s)) rfl rfl rfl ?_
  refine o_assign rfl rfl ?_
  refine triL_nil ?_
  refine thenQ_normal ?_
  refine tri_seq ?_
  refine tri_slots [(16, _), (15, _), (14, _), (13, _), (12, _), (11, _), (10, _), (9, _), (8, _), (7, _), (6, _), (5, _), (3, _), (2, _)] (.cons rfl (.cons rfl (.cons rfl (.cons rfl (.cons rfl (.cons rfl (.cons rfl (.cons rfl (.cons rfl (.cons rfl (.cons rfl (.cons rfl (.cons rfl (.cons rfl (.nil _))))))))))))))) ?_
  refine tri_region ?_
  refine o_loadBV agg23 sz23 (by repeat (first | exact Nth.z | apply Nth.s)) rfl rfl ?_
  refine o_loadBV agg23 sz23 (by repeat (first | exact Nth.z | apply Nth.s)) rfl rfl ?_
  refine o_loadBV agg23 sz23 (by repeat (first | exact Nth.z | apply Nth.s)) rfl rfl ?_
  refine o_loadBV agg23 sz23 (by repeat (first | exact Nth.z | apply Nth.s)) rfl rfl ?_
  refine o_loadBV agg23 sz23 (by repeat (first | exact Nth.z | apply Nth.s)) rfl rfl ?_
  refine o_loadBV agg23 sz23 (by repeat (first | exact Nth.z | apply Nth.s)) rfl rfl ?_
  refine o_lit (parts := [_, _, _, _, _, _]) (valsV ((six a b).map (·.1))) Tryd.underlying35 zs23 rfl rfl rfl rfl (by decide) (by decide) (fun b64 => ?_)
  refine o_assign rfl rfl ?_
  refine triL_nil ?_
  refine thenQ_normal ?_
  refine tri_seq ?_
  refine tri_slots [(17, _), (16, _), (14, _), (12, _), (10, _), (8, _), (6, _), (3, _), (2, _)] (.cons rfl (.cons rfl (.cons rfl (.cons rfl (.cons rfl (.cons rfl (.cons rfl (.cons rfl (.cons rfl (.nil _)))))))))) ?_
  refine tri_region ?_
  refine o_move rfl rfl ?_
  refine o_move rfl rfl ?_
  refine o_move rfl rfl ?_
  refine o_move rfl rfl ?_
  refine o_move rfl rfl ?_
  refine o_move rfl rfl ?_
  refine o_lit (parts := [_, _, _, _, _, _]) (intsV ((six a b).map (·.2))) Tryd.underlying36 zs24 rfl rfl rfl rfl (by decide) (by decide) (fun b71 => ?_)
  refine o_assign rfl rfl ?_
  refine triL_nil ?_
  refine thenQ_normal ?_
  refine tri_seq ?_
  refine tri_seq ?_
  refine tri_slots [(18, _), (17, _), (3, _), (2, _)] (.cons rfl (.cons rfl (.cons rfl (.cons rfl (.nil _))))) ?_
  refine tri_region ?_
  refine o_assign rfl rfl ?_
  refine triL_nil ?_
  refine thenQ_normal ?_
  refine tri_block ?_
  refine tri_loop (ι := Nat) (F := fun i => [(2, .pointer (some ⟨b2, 0, none⟩)), (3, .pointer (some ⟨b3, 0, none⟩)), (17, .slice (some ⟨b64, 0, none⟩) 6 6), (18, .slice (some ⟨b71, 0, none⟩) 6 6), (19, .int .i64 (i : Int))]) (HH := fun i => [row (.slice (some ⟨b71, 0, none⟩) 6 6) 24 1 6 (intsV ((six a b).map (·.2))), row (.slice (some ⟨b64, 0, none⟩) 6 6) 23 3 6 (valsV ((six a b).map (·.1))), box b15 23 (held pkGe a b).1.cs, box b13 23 (held pkGt a b).1.cs, box b11 23 (held pkLe a b).1.cs, box b9 23 (held pkLt a b).1.cs, box b7 23 (held pkNe a b).1.cs, box b5 23 (held pkEq a b).1.cs, box b3 23 b.cs, box b2 23 a.cs]) (Pu := fun i => i ≤ 6) (μ := fun i => 6 - i) (0) (.cons rfl (.cons rfl (.cons rfl (.cons rfl (.cons rfl (.nil _)))))) (fun _ h => h) (by omega) (fun i hi => ?_)
  refine tri_seq ?_
  refine tri_seq ?_
  refine tri_region ?_
  refine o_move rfl rfl ?_
  refine o_lss rfl rfl rfl ?_
  refine triL_nil ?_
  refine thenQ_normal ?_
  refine tri_if rfl (fun h0 => ?_) (fun h0 => ?_)
  · skip
    refine tri_skip ?_
    refine thenQ_normal ?_
    refine tri_seq ?_
    refine tri_block ?_
    refine tri_seq ?_
    refine tri_region ?_
    refine o_move rfl rfl ?_
    refine o_loadBV agg23 sz23 (by repeat (first | exact Nth.z | apply Nth.s)) rfl rfl ?_
    refine o_loadBV agg23 sz23 (by repeat (first | exact Nth.z | apply Nth.s)) rfl rfl ?_
    refine o_callP (first := []) (cap := []) rfl rfl rfl Tryd.call29 (fun w1 h1 => holdsR (i : Int) a b w1 fa fb) ?_
    refine o_move rfl rfl ?_
    refine o_extract rfl rfl rfl ?_
    refine o_extract rfl rfl rfl ?_
    refine o_alloc (Val.cs Val.zero) rfl zero23 rfl (fun b20 => ?_)
    refine o_storeBV sz23 (by repeat (first | exact Nth.z | apply Nth.s)) rfl rfl rfl ?_
    refine o_assign rfl rfl ?_
    refine triL_nil ?_
    refine thenQ_normal ?_
    refine tri_seq ?_
    refine tri_slots [(21, _), (20, _), (2, _), (3, _), (17, _), (18, _), (19, _)] (.cons rfl (.cons rfl (.cons rfl (.cons rfl (.cons rfl (.cons rfl (.cons rfl (.nil _)))))))) ?_
    refine tri_quiet (by kernel_rfl) (by kernel_rfl) ?_
    refine o_move rfl rfl ?_
    refine o_move rfl rfl ?_
    refine o_idxS Tryd.underlying35 sz23 rfl rfl rfl (RdS.row (.s (.s .z))) (by omega) (by omega) (by rw [valsV_length]; simp [six]) (by decide) ?_
    refine o_loadV i agg23 sz23 rfl rfl (RdS.row (.s (.s .z))) (by omega) (by simp [six]; omega) ?_
    refine o_loadBV agg23 sz23 (by repeat (first | exact Nth.z | apply Nth.s)) rfl rfl ?_
    refine o_neqV flat23 rfl rfl rfl ?_
    refine o_move rfl rfl ?_
    refine' triL_or [_, _, _, _, _, _] [(2, _), (3, _), (17, _), (18, _), (19, _)] (dj := 89) (dr := 95) rfl rfl (fun g1 => ?_) ⟨_, rfl, rfl, rfl, (.cons rfl (.cons rfl (.cons rfl (.cons rfl (.cons rfl (.nil _))))))⟩ rfl ?_
    rotate_left
    · skip
      refine o_move rfl rfl ?_
      refine o_move rfl rfl ?_
      refine o_idxS Tryd.underlying36 sz24 rfl rfl rfl (RdS.row (.s .z)) (by omega) (by omega) (by simp [intsV, six]) (by decide) ?_
      refine o_loadR agg24 rfl rfl (RdS.row (.s .z)) (intsV_get _ i _ (by omega) (by simp [six]; omega)) ?_
      refine o_move rfl rfl ?_
      refine o_neqI rfl rfl rfl ?_
      exact triL_nil (Piece.mk rfl rfl (.cons rfl (.cons rfl (.cons rfl (.cons rfl (.cons rfl (.nil _)))))) (fun _ h => h))
    refine triL_nil ?_
    refine thenQ_normal ?_
    refine tri_cond_false (congrArg (fun b : Bool => some (Value.bool b)) (by have q := six_at a b i (by omega); rw [q.1, q.2]; simp)) ?_
    refine tri_skip ?_
    refine blockQ_normal ?_
    refine thenQ_normal ?_
    refine tri_region ?_
    refine o_move rfl rfl ?_
    refine o_addN rfl rfl rfl (by omega) ?_
    refine o_assign rfl rfl ?_
    refine triL_nil ?_
    refine thenQ_normal ?_
    exact ⟨i + 1, (.cons rfl (.cons rfl (.cons rfl (.cons rfl (.cons rfl (.nil _)))))), fun w1 hw1 => hw1.tail, by omega, by omega⟩
  · skip
    refine tri_exit ?_
    refine thenQ_exit ?_
    refine thenQ_exit ?_
    refine blockQ_here ?_
    refine thenQ_normal ?_
    refine tri_seq ?_
    refine tri_slots [] (.nil _) ?_
    refine tri_region ?_
    refine o_callP (first := []) (cap := []) rfl rfl rfl Tryd.call16 (fun w_ hw_ => awakeK w_ (hL.chg hw_.chg)) ?_
    refine o_assign rfl rfl ?_
    refine triL_nil ?_
    refine thenQ_normal ?_
    refine tri_ret ?_
    refine end1 rfl rfl ?_
    exact fun w1 hw1 => ⟨by simp, hw1.chg⟩

theorem valueReckons (a b : Val) (w : World) (fa : fit a) (fb : fit b) (hL : LV w) : Calls Tryd.prog 9 #[aggV a, aggV b] w (Pure w (.bool true)) := by
  refine calls_tri (args := [aggV a, aggV b]) (lent := []) (H := []) Tryd.func9 rfl Tryd.ntmps9 rfl (Sat.start _ _ _ _) ?_
  refine (show Tri _ [(0, _), (1, _)] _ _ _ from ?_)
  refine tri_seq ?_
  refine tri_region ?_
  refine o_box (Val.cs _) rfl rfl rfl (fun b2 => ?_)
  refine o_box (Val.cs _) rfl rfl rfl (fun b3 => ?_)
  refine o_assign rfl rfl ?_
  refine triL_nil ?_
  refine thenQ_normal ?_
  refine tri_seq ?_
  refine tri_region ?_
  refine o_loadBV agg23 sz23 (by repeat (first | exact Nth.z | apply Nth.s)) rfl rfl ?_
  refine o_loadBV agg23 sz23 (by repeat (first | exact Nth.z | apply Nth.s)) rfl rfl ?_
  refine o_callP (first := []) (cap := []) rfl rfl rfl Tryd.call18 (fun w_ hw_ => addK _ _ w_ (by assumption) (by assumption)) ?_
  refine o_move rfl rfl ?_
  refine o_extract rfl rfl rfl ?_
  refine o_extract rfl rfl rfl ?_
  refine o_alloc (Val.cs Val.zero) rfl zero23 rfl (fun b5 => ?_)
  refine o_storeBV sz23 (by repeat (first | exact Nth.z | apply Nth.s)) rfl rfl rfl ?_
  refine o_assign rfl rfl ?_
  refine triL_nil ?_
  refine thenQ_normal ?_
  refine tri_seq ?_
  refine tri_slots [(6, _), (5, _), (3, _), (2, _)] (.cons rfl (.cons rfl (.cons rfl (.cons rfl (.nil _))))) ?_
  refine tri_region ?_
  refine o_loadBV agg23 sz23 (by repeat (first | exact Nth.z | apply Nth.s)) rfl rfl ?_
  refine o_loadBV agg23 sz23 (by repeat (first | exact Nth.z | apply Nth.s)) rfl rfl ?_
  refine o_callP (first := []) (cap := []) rfl rfl rfl Tryd.call20 (fun w_ hw_ => subK _ _ w_ (by assumption) (by assumption)) ?_
  refine o_move rfl rfl ?_
  refine o_extract rfl rfl rfl ?_
  refine o_extract rfl rfl rfl ?_
  refine o_alloc (Val.cs Val.zero) rfl zero23 rfl (fun b7 => ?_)
  refine o_storeBV sz23 (by repeat (first | exact Nth.z | apply Nth.s)) rfl rfl rfl ?_
  refine o_assign rfl rfl ?_
  refine triL_nil ?_
  refine thenQ_normal ?_
  refine tri_seq ?_
  refine tri_slots [(8, _), (7, _), (6, _), (5, _), (3, _), (2, _)] (.cons rfl (.cons rfl (.cons rfl (.cons rfl (.cons rfl (.cons rfl (.nil _))))))) ?_
  refine tri_region ?_
  refine o_loadBV agg23 sz23 (by repeat (first | exact Nth.z | apply Nth.s)) rfl rfl ?_
  refine o_loadBV agg23 sz23 (by repeat (first | exact Nth.z | apply Nth.s)) rfl rfl ?_
  refine o_callP (first := []) (cap := []) rfl rfl rfl Tryd.call19 (fun w_ hw_ => mulK _ _ w_ (by assumption) (by assumption)) ?_
  refine o_move rfl rfl ?_
  refine o_extract rfl rfl rfl ?_
  refine o_extract rfl rfl rfl ?_
  refine o_alloc (Val.cs Val.zero) rfl zero23 rfl (fun b9 => ?_)
  refine o_storeBV sz23 (by repeat (first | exact Nth.z | apply Nth.s)) rfl rfl rfl ?_
  refine o_assign rfl rfl ?_
  refine triL_nil ?_
  refine thenQ_normal ?_
  refine tri_seq ?_
  refine tri_slots [(10, _), (9, _), (8, _), (7, _), (6, _), (5, _), (3, _), (2, _)] (.cons rfl (.cons rfl (.cons rfl (.cons rfl (.cons rfl (.cons rfl (.cons rfl (.cons rfl (.nil _))))))))) ?_
  refine tri_region ?_
  refine o_loadBV agg23 sz23 (by repeat (first | exact Nth.z | apply Nth.s)) rfl rfl ?_
  refine o_loadBV agg23 sz23 (by repeat (first | exact Nth.z | apply Nth.s)) rfl rfl ?_
  refine o_callP (first := []) (cap := []) rfl rfl rfl Tryd.call21 (fun w_ hw_ => divK _ _ w_ (by assumption) (by assumption)) ?_
  refine o_move rfl rfl ?_
  refine o_extract rfl rfl rfl ?_
  refine o_extract rfl rfl rfl ?_
  refine o_alloc (Val.cs Val.zero) rfl zero23 rfl (fun b11 => ?_)
  refine o_storeBV sz23 (by repeat (first | exact Nth.z | apply Nth.s)) rfl rfl rfl ?_
  refine o_assign rfl rfl ?_
  refine triL_nil ?_
  refine thenQ_normal ?_
  refine tri_seq ?_
  refine tri_slots [(12, _), (11, _), (10, _), (9, _), (8, _), (7, _), (6, _), (5, _), (3, _), (2, _)] (.cons rfl (.cons rfl (.cons rfl (.cons rfl (.cons rfl (.cons rfl (.cons rfl (.cons rfl (.cons rfl (.cons rfl (.nil _))))))))))) ?_
  refine tri_region ?_
  refine o_loadBV agg23 sz23 (by repeat (first | exact Nth.z | apply Nth.s)) rfl rfl ?_
  refine o_loadBV agg23 sz23 (by repeat (first | exact Nth.z | apply Nth.s)) rfl rfl ?_
  refine o_callP (first := []) (cap := []) rfl rfl rfl Tryd.call22 (fun w_ hw_ => modK _ _ w_ (by assumption) (by assumption)) ?_
  refine o_move rfl rfl ?_
  refine o_extract rfl rfl rfl ?_
  refine o_extract rfl rfl rfl ?_
  refine o_alloc (Val.cs Val.zero) rfl zero23 rfl (fun b13 => ?_)
  refine o_storeBV sz23 (by repeat (first | exact Nth.z | apply Nth.s)) rfl rfl rfl ?_
  refine o_assign rfl rfl ?_
  refine triL_nil ?_
  refine thenQ_normal ?_
  refine tri_seq ?_
  refine tri_slots [(14, _), (13, _), (12, _), (11, _), (10, _), (9, _), (8, _), (7, _), (6, _), (5, _), (3, _), (2, _)] (.cons rfl (.cons rfl (.cons rfl (.cons rfl (.cons rfl (.cons rfl (.cons rfl (.cons rfl (.cons rfl (.cons rfl (.cons rfl (.cons rfl (.nil _))))))))))))) ?_
  refine tri_region ?_
  refine o_loadBV agg23 sz23 (by repeat (first | exact Nth.z | apply Nth.s)) rfl rfl ?_
  refine o_loadBV agg23 sz23 (by repeat (first | exact Nth.z | apply Nth.s)) rfl rfl ?_
  refine o_loadBV agg23 sz23 (by repeat (first | exact Nth.z | apply Nth.s)) rfl rfl ?_
  refine o_loadBV agg23 sz23 (by repeat (first | exact Nth.z | apply Nth.s)) rfl rfl ?_
  refine o_loadBV agg23 sz23 (by repeat (first | exact Nth.z | apply Nth.s)) rfl rfl ?_
  refine o_lit (parts := [_, _, _, _, _]) (valsV ((five a b).map (·.1))) Tryd.underlying35 zs23 rfl rfl rfl rfl (by decide) (by decide) (fun b63 => ?_)
  refine o_assign rfl rfl ?_
  refine triL_nil ?_
  refine thenQ_normal ?_
  refine tri_seq ?_
  refine tri_slots [(15, _), (14, _), (12, _), (10, _), (8, _), (6, _), (3, _), (2, _)] (.cons rfl (.cons rfl (.cons rfl (.cons rfl (.cons rfl (.cons rfl (.cons rfl (.cons rfl (.nil _))))))))) ?_
  refine tri_region ?_
  refine o_move rfl rfl ?_
  refine o_move rfl rfl ?_
  refine o_move rfl rfl ?_
  refine o_move rfl rfl ?_
  refine o_move rfl rfl ?_
  refine o_lit (parts := [_, _, _, _, _]) (intsV ((five a b).map (·.2))) Tryd.underlying36 zs24 rfl rfl rfl rfl (by decide) (by decide) (fun b69 => ?_)
  refine o_assign rfl rfl ?_
  refine triL_nil ?_
  refine thenQ_normal ?_
  refine tri_seq ?_
  refine tri_seq ?_
  refine tri_slots [(16, _), (15, _), (3, _), (2, _)] (.cons rfl (.cons rfl (.cons rfl (.cons rfl (.nil _))))) ?_
  refine tri_region ?_
  refine o_assign rfl rfl ?_
  refine triL_nil ?_
  refine thenQ_normal ?_
  refine tri_block ?_
  refine tri_loop (ι := Nat) (F := fun i => [(2, .pointer (some ⟨b2, 0, none⟩)), (3, .pointer (some ⟨b3, 0, none⟩)), (15, .slice (some ⟨b63, 0, none⟩) 5 5), (16, .slice (some ⟨b69, 0, none⟩) 5 5), (17, .int .i64 (i : Int))]) (HH := fun i => [row (.slice (some ⟨b69, 0, none⟩) 5 5) 24 1 5 (intsV ((five a b).map (·.2))), row (.slice (some ⟨b63, 0, none⟩) 5 5) 23 3 5 (valsV ((five a b).map (·.1))), box b13 23 (reckZ modF a b).1.cs, box b11 23 (reckZ divF a b).1.cs, box b9 23 (reck mulF a b).1.cs, box b7 23 (reck subF a b).1.cs, box b5 23 (reck addF a b).1.cs, box b3 23 b.cs, box b2 23 a.cs]) (Pu := fun i => i ≤ 5) (μ := fun i => 5 - i) (0) (.cons rfl (.cons rfl (.cons rfl (.cons rfl (.cons rfl (.nil _)))))) (fun _ h => h) (by omega) (fun i hi => ?_)
  refine tri_seq ?_
  refine tri_seq ?_
  refine tri_region ?_
  refine o_move rfl rfl ?_
  refine o_lss rfl rfl rfl ?_
  refine triL_nil ?_
  refine thenQ_normal ?_
  refine tri_if rfl (fun h0 => ?_) (fun h0 => ?_)
  · skip
    refine tri_skip ?_
    refine thenQ_normal ?_
    refine tri_seq ?_
    refine tri_block ?_
    refine tri_seq ?_
    refine tri_region ?_
    refine o_move rfl rfl ?_
    refine o_loadBV agg23 sz23 (by repeat (first | exact Nth.z | apply Nth.s)) rfl rfl ?_
    refine o_loadBV agg23 sz23 (by repeat (first | exact Nth.z | apply Nth.s)) rfl rfl ?_
    refine o_callP (first := []) (cap := []) rfl rfl rfl Tryd.call36 (fun w1 h1 => reckonR (i : Int) a b w1 (by omega) fa fb) ?_
    refine o_move rfl rfl ?_
    refine o_extract rfl rfl rfl ?_
    refine o_extract rfl rfl rfl ?_
    refine o_alloc (Val.cs Val.zero) rfl zero23 rfl (fun b18 => ?_)
    refine o_storeBV sz23 (by repeat (first | exact Nth.z | apply Nth.s)) rfl rfl rfl ?_
    refine o_assign rfl rfl ?_
    refine triL_nil ?_
    refine thenQ_normal ?_
    refine tri_seq ?_
    refine tri_slots [(19, _), (18, _), (2, _), (3, _), (15, _), (16, _), (17, _)] (.cons rfl (.cons rfl (.cons rfl (.cons rfl (.cons rfl (.cons rfl (.cons rfl (.nil _)))))))) ?_
    refine tri_quiet (by kernel_rfl) (by kernel_rfl) ?_
    refine o_move rfl rfl ?_
    refine o_move rfl rfl ?_
    refine o_idxS Tryd.underlying35 sz23 rfl rfl rfl (RdS.row (.s (.s .z))) (by omega) (by omega) (by rw [valsV_length]; simp [five]) (by decide) ?_
    refine o_loadV i agg23 sz23 rfl rfl (RdS.row (.s (.s .z))) (by omega) (by simp [five]; omega) ?_
    refine o_loadBV agg23 sz23 (by repeat (first | exact Nth.z | apply Nth.s)) rfl rfl ?_
    refine o_neqV flat23 rfl rfl rfl ?_
    refine o_move rfl rfl ?_
    refine' triL_or [_, _, _, _, _, _] [(2, _), (3, _), (15, _), (16, _), (17, _)] (dj := 87) (dr := 93) rfl rfl (fun g1 => ?_) ⟨_, rfl, rfl, rfl, (.cons rfl (.cons rfl (.cons rfl (.cons rfl (.cons rfl (.nil _))))))⟩ rfl ?_
    rotate_left
    · skip
      refine o_move rfl rfl ?_
      refine o_move rfl rfl ?_
      refine o_idxS Tryd.underlying36 sz24 rfl rfl rfl (RdS.row (.s .z)) (by omega) (by omega) (by simp [intsV, five]) (by decide) ?_
      refine o_loadR agg24 rfl rfl (RdS.row (.s .z)) (intsV_get _ i _ (by omega) (by simp [five]; omega)) ?_
      refine o_move rfl rfl ?_
      refine o_neqI rfl rfl rfl ?_
      exact triL_nil (Piece.mk rfl rfl (.cons rfl (.cons rfl (.cons rfl (.cons rfl (.cons rfl (.nil _)))))) (fun _ h => h))
    refine triL_nil ?_
    refine thenQ_normal ?_
    refine tri_cond_false (congrArg (fun b : Bool => some (Value.bool b)) (by have q := five_at fa fb i (by omega); rw [q.1, q.2]; simp)) ?_
    refine tri_skip ?_
    refine blockQ_normal ?_
    refine thenQ_normal ?_
    refine tri_region ?_
    refine o_move rfl rfl ?_
    refine o_addN rfl rfl rfl (by omega) ?_
    refine o_assign rfl rfl ?_
    refine triL_nil ?_
    refine thenQ_normal ?_
    exact ⟨i + 1, (.cons rfl (.cons rfl (.cons rfl (.cons rfl (.cons rfl (.nil _)))))), fun w1 hw1 => hw1.tail, by omega, by omega⟩
  · skip
    refine tri_exit ?_
    refine thenQ_exit ?_
    refine thenQ_exit ?_
    refine blockQ_here ?_
    refine thenQ_normal ?_
    refine tri_seq ?_
    refine tri_slots [(2, _), (3, _)] (.cons rfl (.cons rfl (.nil _))) ?_
    refine tri_region ?_
    refine o_loadBV agg23 sz23 (by repeat (first | exact Nth.z | apply Nth.s)) rfl rfl ?_
    refine o_callP (first := []) (cap := []) rfl rfl rfl Tryd.call37 (fun w_ hw_ => negK _ w_ (by assumption)) ?_
    refine o_move rfl rfl ?_
    refine o_extract rfl rfl rfl ?_
    refine o_extract rfl rfl rfl ?_
    refine o_alloc (Val.cs Val.zero) rfl zero23 rfl (fun b20 => ?_)
    refine o_storeBV sz23 (by repeat (first | exact Nth.z | apply Nth.s)) rfl rfl rfl ?_
    refine o_assign rfl rfl ?_
    refine triL_nil ?_
    refine thenQ_normal ?_
    refine tri_seq ?_
    refine tri_slots [(21, _), (20, _), (2, _), (3, _)] (.cons rfl (.cons rfl (.cons rfl (.cons rfl (.nil _))))) ?_
    refine tri_region ?_
    refine o_loadBV agg23 sz23 (by repeat (first | exact Nth.z | apply Nth.s)) rfl rfl ?_
    refine o_callP (first := []) (cap := []) rfl rfl rfl Tryd.call38 (fun w_ hw_ => negR _ w_ (by assumption)) ?_
    refine o_move rfl rfl ?_
    refine o_extract rfl rfl rfl ?_
    refine o_extract rfl rfl rfl ?_
    refine o_alloc (Val.cs Val.zero) rfl zero23 rfl (fun b22 => ?_)
    refine o_storeBV sz23 (by repeat (first | exact Nth.z | apply Nth.s)) rfl rfl rfl ?_
    refine o_assign rfl rfl ?_
    refine triL_nil ?_
    refine thenQ_normal ?_
    refine tri_seq ?_
    refine tri_slots [(23, _), (22, _), (21, _), (20, _), (2, _), (3, _)] (.cons rfl (.cons rfl (.cons rfl (.cons rfl (.cons rfl (.cons rfl (.nil _))))))) ?_
    refine tri_region ?_
    refine o_loadBV agg23 sz23 (by repeat (first | exact Nth.z | apply Nth.s)) rfl rfl ?_
    refine o_loadBV agg23 sz23 (by repeat (first | exact Nth.z | apply Nth.s)) rfl rfl ?_
    refine o_callP (first := []) (cap := []) rfl rfl rfl Tryd.call39 (fun w_ hw_ => joinK _ _ w_ (by assumption) (by assumption)) ?_
    refine o_move rfl rfl ?_
    refine o_extract rfl rfl rfl ?_
    refine o_extract rfl rfl rfl ?_
    refine o_alloc (Val.cs Val.zero) rfl zero23 rfl (fun b24 => ?_)
    refine o_storeBV sz23 (by repeat (first | exact Nth.z | apply Nth.s)) rfl rfl rfl ?_
    refine o_assign rfl rfl ?_
    refine triL_nil ?_
    refine thenQ_normal ?_
    refine tri_seq ?_
    refine tri_slots [(25, _), (24, _), (23, _), (22, _), (21, _), (20, _), (2, _), (3, _)] (.cons rfl (.cons rfl (.cons rfl (.cons rfl (.cons rfl (.cons rfl (.cons rfl (.cons rfl (.nil _))))))))) ?_
    refine tri_region ?_
    refine o_loadBV agg23 sz23 (by repeat (first | exact Nth.z | apply Nth.s)) rfl rfl ?_
    refine o_loadBV agg23 sz23 (by repeat (first | exact Nth.z | apply Nth.s)) rfl rfl ?_
    refine o_callP (first := []) (cap := []) rfl rfl rfl Tryd.call40 (fun w_ hw_ => joinR _ _ w_ (by assumption) (by assumption)) ?_
    refine o_move rfl rfl ?_
    refine o_extract rfl rfl rfl ?_
    refine o_extract rfl rfl rfl ?_
    refine o_alloc (Val.cs Val.zero) rfl zero23 rfl (fun b26 => ?_)
    refine o_storeBV sz23 (by repeat (first | exact Nth.z | apply Nth.s)) rfl rfl rfl ?_
    refine o_assign rfl rfl ?_
    refine triL_nil ?_
    refine thenQ_normal ?_
    refine tri_seq ?_
    refine tri_slots [(27, _), (26, _), (25, _), (24, _), (23, _), (22, _), (21, _), (20, _)] (.cons rfl (.cons rfl (.cons rfl (.cons rfl (.cons rfl (.cons rfl (.cons rfl (.cons rfl (.nil _))))))))) ?_
    refine tri_region ?_
    refine o_loadBV agg23 sz23 (by repeat (first | exact Nth.z | apply Nth.s)) rfl rfl ?_
    refine o_loadBV agg23 sz23 (by repeat (first | exact Nth.z | apply Nth.s)) rfl rfl ?_
    refine o_eqlV flat23 rfl rfl rfl ?_
    refine o_move rfl rfl ?_
    refine' triL_and [_, _, _] [(27, _), (26, _), (25, _), (24, _)] (dj := 120) (dr := 123) rfl rfl (fun g2 => ?_) ⟨_, rfl, rfl, rfl, (.cons rfl (.cons rfl (.cons rfl (.cons rfl (.nil _)))))⟩ rfl ?_
    rotate_left
    · skip
      refine o_move rfl rfl ?_
      refine o_move rfl rfl ?_
      refine o_eqlI rfl rfl rfl ?_
      exact triL_nil (Piece.mk rfl rfl (.cons rfl (.cons rfl (.cons rfl (.cons rfl (.nil _))))) (fun _ h => h))
    refine o_move rfl rfl ?_
    refine' triL_and [_, _, _] [(27, _), (25, _)] (dj := 125) (dr := 128) rfl rfl (fun g3 => ?_) ⟨_, rfl, rfl, rfl, (.cons rfl (.cons rfl (.nil _)))⟩ rfl ?_
    rotate_left
    · skip
      refine o_loadBV agg23 sz23 (by repeat (first | exact Nth.z | apply Nth.s)) rfl rfl ?_
      refine o_loadBV agg23 sz23 (by repeat (first | exact Nth.z | apply Nth.s)) rfl rfl ?_
      refine o_eqlV flat23 rfl rfl rfl ?_
      exact triL_nil (Piece.mk rfl rfl (.cons rfl (.cons rfl (.nil _))) (fun _ h => h))
    refine o_move rfl rfl ?_
    refine' triL_and [_, _, _] [] (dj := 130) (dr := 133) rfl rfl (fun g4 => ?_) ⟨_, rfl, rfl, rfl, (.nil _)⟩ rfl ?_
    rotate_left
    · skip
      refine o_move rfl rfl ?_
      refine o_move rfl rfl ?_
      refine o_eqlI rfl rfl rfl ?_
      exact triL_nil (Piece.mk rfl rfl (.nil _) (fun _ h => h))
    refine o_move rfl rfl ?_
    refine' triL_and [_] [] (dj := 135) (dr := 136) rfl rfl (fun g5 => ?_) ⟨_, rfl, rfl, rfl, (.nil _)⟩ rfl ?_
    rotate_left
    · skip
      refine o_callP (first := []) (cap := []) rfl rfl rfl Tryd.call16 (fun w_ hw_ => awakeK w_ (hL.chg hw_.chg)) ?_
      exact triL_nil (Piece.mk rfl rfl (.nil _) (fun _ h => h))
    refine o_assign rfl rfl ?_
    refine triL_nil ?_
    refine thenQ_normal ?_
    refine tri_ret ?_
    refine end1 rfl rfl ?_
    exact fun w1 hw1 => ⟨by simp, hw1.chg⟩

end Go.Proofs.YtgogkkkacpacgaaDoor
