/- the values' laws, walked: the ring of whole numbers -/
import Derived.Test.YtgogkkkacpacgaaDoorLaws
namespace Go.Proofs.YtgogkkkacpacgaaDoor
open Go.WK Go.RowKit 



theorem fit_reck {f : Int → Int → Int × Bool} (hf : ∀ x y, inR (f x y).1 = true) (a b : Val) : fit (reck f a b).1 := by
  unfold reck
  split
  · exact fitZ
  · split
    · exact fitN (hf _ _)
    · exact fitZ
theorem inR_wrap (z : Int) : inR (IntKind.i64.wrap z) = true := by
  obtain ⟨_, _, h1, h2⟩ := wrap_eq z
  exact inR_iff.2 ⟨h1, h2⟩
theorem fit_reckZ {f : Int → Int → Int × Bool} (hf : ∀ x y, inR (f x y).1 = true) (a b : Val) : fit (reckZ f a b).1 := by
  unfold reckZ
  split
  · exact fitZ
  · exact fit_reck hf a b
theorem ring_b (x y z : Int) : ((((decide ((reck addF (numV x) (numV y)).2 = 0) && decide ((reck mulF (numV x) (numV z)).2 = 0)) && decide ((reck mulF (numV y) (numV z)).2 = 0)) && decide ((reck mulF (reck addF (numV x) (numV y)).1 (numV z)).2 = 0)) &&
    (decide ((reck addF (reck mulF (numV x) (numV z)).1 (reck mulF (numV y) (numV z)).1).2 ≠ 0) || !decide ((reck addF (reck mulF (numV x) (numV z)).1 (reck mulF (numV y) (numV z)).1).1 = (reck mulF (reck addF (numV x) (numV y)).1 (numV z)).1))) = false := by
  rw [Bool.eq_false_iff]
  intro h
  simp only [Bool.and_eq_true, decide_eq_true_eq] at h
  obtain ⟨⟨⟨⟨e, k⟩, l⟩, m⟩, h⟩ := h
  rw [ring_law e k l m] at h
  simp at h
theorem sym_b (x y : Int) : (((!decide ((reck addF (numV x) (numV y)).1 = (reck addF (numV y) (numV x)).1) || decide ((reck addF (numV x) (numV y)).2 ≠ (reck addF (numV y) (numV x)).2)) || !decide ((reck mulF (numV x) (numV y)).1 = (reck mulF (numV y) (numV x)).1)) || decide ((reck mulF (numV x) (numV y)).2 ≠ (reck mulF (numV y) (numV x)).2)) = false := by
  rw [add_comm' (numV y) (numV x), mul_comm' (numV y) (numV x)]
  simp
theorem dcode_b (x y : Int) : ((decide ((reckZ divF (numV x) (numV y)).2 = 32) != decide (y = 0)) || (decide ((reckZ modF (numV x) (numV y)).2 = 32) != decide (y = 0))) = false := by
  have h := div_code (x := x) (y := y)
  have e1 : decide ((reckZ divF (numV x) (numV y)).2 = 32) = decide (y = 0) := decide_eq_decide.2 h.1
  have e2 : decide ((reckZ modF (numV x) (numV y)).2 = 32) = decide (y = 0) := decide_eq_decide.2 h.2
  rw [e1, e2]
  simp

theorem valueRing (x y z : Int) (w : World) (hx : inR x = true) (hy : inR y = true) (hz : inR z = true) (hL : LV w) : Calls Tryd.prog 5 #[.int .i64 x, .int .i64 y, .int .i64 z] w (Pure w (.bool true)) := by
  refine calls_tri (args := [.int .i64 x, .int .i64 y, .int .i64 z]) (lent := []) (H := []) Tryd.func5 rfl Tryd.ntmps5 rfl (Sat.start _ _ _ _) ?_
  refine (show Tri _ [(0, _), (1, _), (2, _)] _ _ _ from ?_)
  have wa : ∀ x y, inR (addF x y).1 = true := fun x y => inR_wrap _
  have wm : ∀ x y, inR (mulF x y).1 = true := fun x y => inR_wrap _
  have wd : ∀ x y, inR (divF x y).1 = true := fun x y => inR_wrap _
  have wr : ∀ x y, inR (modF x y).1 = true := fun x y => inR_wrap _
  have fx := fitN hx
  have fy := fitN hy
  have fz := fitN hz
  have fs := fit_reck wa (numV x) (numV y)
  have fd := fit_reckZ wd (numV x) (numV y)
  have fr := fit_reckZ wr (numV x) (numV y)
  have fk := fit_reck wm (reckZ divF (numV x) (numV y)).1 (numV y)
  have fac := fit_reck wm (numV x) (numV z)
  have fbc := fit_reck wm (numV y) (numV z)
  refine tri_seq ?_
  refine tri_region ?_
  refine o_assign rfl rfl ?_
  refine triL_nil ?_
  refine thenQ_normal ?_
  refine tri_seq ?_
  refine tri_region ?_
  refine o_move rfl rfl ?_
  refine o_callP (first := []) (cap := []) rfl rfl rfl Tryd.call17 (fun w_ hw_ => numK _ w_) ?_
  refine o_move rfl rfl ?_
  refine o_callP (first := []) (cap := []) rfl rfl rfl Tryd.call17 (fun w_ hw_ => numK _ w_) ?_
  refine o_move rfl rfl ?_
  refine o_callP (first := []) (cap := []) rfl rfl rfl Tryd.call17 (fun w_ hw_ => numK _ w_) ?_
  refine o_alloc (Val.cs Val.zero) rfl zero23 rfl (fun b7 => ?_)
  refine o_alloc (Val.cs Val.zero) rfl zero23 rfl (fun b8 => ?_)
  refine o_alloc (Val.cs Val.zero) rfl zero23 rfl (fun b9 => ?_)
  refine o_storeBV sz23 (by repeat (first | exact Nth.z | apply Nth.s)) rfl rfl rfl ?_
  refine o_storeBV sz23 (by repeat (first | exact Nth.z | apply Nth.s)) rfl rfl rfl ?_
  refine o_storeBV sz23 (by repeat (first | exact Nth.z | apply Nth.s)) rfl rfl rfl ?_
  refine triL_nil ?_
  refine thenQ_normal ?_
  refine tri_seq ?_
  refine tri_slots [(9, _), (8, _), (7, _), (1, _)] (.cons rfl (.cons rfl (.cons rfl (.cons rfl (.nil _))))) ?_
  refine tri_region ?_
  refine o_loadBV agg23 sz23 (by repeat (first | exact Nth.z | apply Nth.s)) rfl rfl ?_
  refine o_loadBV agg23 sz23 (by repeat (first | exact Nth.z | apply Nth.s)) rfl rfl ?_
  refine o_callP (first := []) (cap := []) rfl rfl rfl Tryd.call18 (fun w_ hw_ => addK _ _ w_ (by assumption) (by assumption)) ?_
  refine o_move rfl rfl ?_
  refine o_extract rfl rfl rfl ?_
  refine o_extract rfl rfl rfl ?_
  refine o_alloc (Val.cs Val.zero) rfl zero23 rfl (fun b10 => ?_)
  refine o_storeBV sz23 (by repeat (first | exact Nth.z | apply Nth.s)) rfl rfl rfl ?_
  refine o_assign rfl rfl ?_
  refine triL_nil ?_
  refine thenQ_normal ?_
  refine tri_seq ?_
  refine tri_slots [(11, _), (10, _), (9, _), (8, _), (7, _), (1, _)] (.cons rfl (.cons rfl (.cons rfl (.cons rfl (.cons rfl (.cons rfl (.nil _))))))) ?_
  refine tri_region ?_
  refine o_loadBV agg23 sz23 (by repeat (first | exact Nth.z | apply Nth.s)) rfl rfl ?_
  refine o_loadBV agg23 sz23 (by repeat (first | exact Nth.z | apply Nth.s)) rfl rfl ?_
  refine o_callP (first := []) (cap := []) rfl rfl rfl Tryd.call18 (fun w_ hw_ => addK _ _ w_ (by assumption) (by assumption)) ?_
  refine o_move rfl rfl ?_
  refine o_extract rfl rfl rfl ?_
  refine o_extract rfl rfl rfl ?_
  refine o_alloc (Val.cs Val.zero) rfl zero23 rfl (fun b12 => ?_)
  refine o_storeBV sz23 (by repeat (first | exact Nth.z | apply Nth.s)) rfl rfl rfl ?_
  refine o_assign rfl rfl ?_
  refine triL_nil ?_
  refine thenQ_normal ?_
  refine tri_seq ?_
  refine tri_slots [(13, _), (12, _), (11, _), (10, _), (9, _), (8, _), (7, _), (1, _)] (.cons rfl (.cons rfl (.cons rfl (.cons rfl (.cons rfl (.cons rfl (.cons rfl (.cons rfl (.nil _))))))))) ?_
  refine tri_region ?_
  refine o_loadBV agg23 sz23 (by repeat (first | exact Nth.z | apply Nth.s)) rfl rfl ?_
  refine o_loadBV agg23 sz23 (by repeat (first | exact Nth.z | apply Nth.s)) rfl rfl ?_
  refine o_callP (first := []) (cap := []) rfl rfl rfl Tryd.call19 (fun w_ hw_ => mulK _ _ w_ (by assumption) (by assumption)) ?_
  refine o_move rfl rfl ?_
  refine o_extract rfl rfl rfl ?_
  refine o_extract rfl rfl rfl ?_
  refine o_alloc (Val.cs Val.zero) rfl zero23 rfl (fun b14 => ?_)
  refine o_storeBV sz23 (by repeat (first | exact Nth.z | apply Nth.s)) rfl rfl rfl ?_
  refine o_assign rfl rfl ?_
  refine triL_nil ?_
  refine thenQ_normal ?_
  refine tri_seq ?_
  refine tri_slots [(15, _), (14, _), (13, _), (12, _), (11, _), (10, _), (9, _), (8, _), (7, _), (1, _)] (.cons rfl (.cons rfl (.cons rfl (.cons rfl (.cons rfl (.cons rfl (.cons rfl (.cons rfl (.cons rfl (.cons rfl (.nil _))))))))))) ?_
  refine tri_region ?_
  refine o_loadBV agg23 sz23 (by repeat (first | exact Nth.z | apply Nth.s)) rfl rfl ?_
  refine o_loadBV agg23 sz23 (by repeat (first | exact Nth.z | apply Nth.s)) rfl rfl ?_
  refine o_callP (first := []) (cap := []) rfl rfl rfl Tryd.call19 (fun w_ hw_ => mulK _ _ w_ (by assumption) (by assumption)) ?_
  refine o_move rfl rfl ?_
  refine o_extract rfl rfl rfl ?_
  refine o_extract rfl rfl rfl ?_
  refine o_alloc (Val.cs Val.zero) rfl zero23 rfl (fun b16 => ?_)
  refine o_storeBV sz23 (by repeat (first | exact Nth.z | apply Nth.s)) rfl rfl rfl ?_
  refine o_assign rfl rfl ?_
  refine triL_nil ?_
  refine thenQ_normal ?_
  refine tri_seq ?_
  refine tri_seq ?_
  refine tri_slots [(17, _), (16, _), (15, _), (14, _), (13, _), (12, _), (11, _), (10, _), (9, _), (8, _), (7, _), (1, _)] (.cons rfl (.cons rfl (.cons rfl (.cons rfl (.cons rfl (.cons rfl (.cons rfl (.cons rfl (.cons rfl (.cons rfl (.cons rfl (.cons rfl (.nil _))))))))))))) ?_
  refine tri_region ?_
  refine o_loadBV agg23 sz23 (by repeat (first | exact Nth.z | apply Nth.s)) rfl rfl ?_
  refine o_loadBV agg23 sz23 (by repeat (first | exact Nth.z | apply Nth.s)) rfl rfl ?_
  refine o_neqV flat23 rfl rfl rfl ?_
  refine o_move rfl rfl ?_
  refine' triL_or [_, _, _] [(17, _), (16, _), (15, _), (14, _), (11, _), (10, _), (9, _), (8, _), (7, _), (1, _)] (dj := 69) (dr := 72) rfl rfl (fun g1 => ?_) ⟨_, rfl, rfl, rfl, (.cons rfl (.cons rfl (.cons rfl (.cons rfl (.cons rfl (.cons rfl (.cons rfl (.cons rfl (.cons rfl (.cons rfl (.nil _)))))))))))⟩ rfl ?_
  rotate_left
  · skip
    refine o_move rfl rfl ?_
    refine o_move rfl rfl ?_
    refine o_neqI rfl rfl rfl ?_
    exact triL_nil (Piece.mk rfl rfl (.cons rfl (.cons rfl (.cons rfl (.cons rfl (.cons rfl (.cons rfl (.cons rfl (.cons rfl (.cons rfl (.cons rfl (.nil _))))))))))) (fun _ h => h))
  refine o_move rfl rfl ?_
  refine' triL_or [_, _, _] [(17, _), (15, _), (11, _), (10, _), (9, _), (8, _), (7, _), (1, _)] (dj := 74) (dr := 77) rfl rfl (fun g2 => ?_) ⟨_, rfl, rfl, rfl, (.cons rfl (.cons rfl (.cons rfl (.cons rfl (.cons rfl (.cons rfl (.cons rfl (.cons rfl (.nil _)))))))))⟩ rfl ?_
  rotate_left
  · skip
    refine o_loadBV agg23 sz23 (by repeat (first | exact Nth.z | apply Nth.s)) rfl rfl ?_
    refine o_loadBV agg23 sz23 (by repeat (first | exact Nth.z | apply Nth.s)) rfl rfl ?_
    refine o_neqV flat23 rfl rfl rfl ?_
    exact triL_nil (Piece.mk rfl rfl (.cons rfl (.cons rfl (.cons rfl (.cons rfl (.cons rfl (.cons rfl (.cons rfl (.cons rfl (.nil _))))))))) (fun _ h => h))
  refine o_move rfl rfl ?_
  refine' triL_or [_, _, _] [(11, _), (10, _), (9, _), (8, _), (7, _), (1, _)] (dj := 79) (dr := 82) rfl rfl (fun g3 => ?_) ⟨_, rfl, rfl, rfl, (.cons rfl (.cons rfl (.cons rfl (.cons rfl (.cons rfl (.cons rfl (.nil _)))))))⟩ rfl ?_
  rotate_left
  · skip
    refine o_move rfl rfl ?_
    refine o_move rfl rfl ?_
    refine o_neqI rfl rfl rfl ?_
    exact triL_nil (Piece.mk rfl rfl (.cons rfl (.cons rfl (.cons rfl (.cons rfl (.cons rfl (.cons rfl (.nil _))))))) (fun _ h => h))
  refine triL_nil ?_
  refine thenQ_normal ?_
  refine tri_cond_false (congrArg (fun b : Bool => some (Value.bool b)) (by exact sym_b x y)) ?_
  refine tri_skip ?_
  refine thenQ_normal ?_
  refine tri_join (ι := Unit) (fun u => [(1, .int .i64 y), (7, .pointer (some ⟨b7, 0, none⟩)), (8, .pointer (some ⟨b8, 0, none⟩)), (9, .pointer (some ⟨b9, 0, none⟩)), (10, .pointer (some ⟨b10, 0, none⟩)), (11, .int .i64 (reck addF (numV x) (numV y)).2)]) (fun u => [box b10 23 (reck addF (numV x) (numV y)).1.cs, box b9 23 (numV z).cs, box b8 23 (numV y).cs, box b7 23 (numV x).cs]) (fun u => True) ?_ (fun u hj => ?_)
  · skip
    refine tri_seq ?_
    refine tri_region ?_
    refine o_move rfl rfl ?_
    refine o_eqlI rfl rfl rfl ?_
    refine triL_nil ?_
    refine thenQ_normal ?_
    refine tri_if rfl (fun e0 => ?_) (fun e0 => ?_)
    · skip
      refine tri_seq ?_
      refine tri_region ?_
      refine o_loadBV agg23 sz23 (by repeat (first | exact Nth.z | apply Nth.s)) rfl rfl ?_
      refine o_loadBV agg23 sz23 (by repeat (first | exact Nth.z | apply Nth.s)) rfl rfl ?_
      refine o_callP (first := []) (cap := []) rfl rfl rfl Tryd.call20 (fun w_ hw_ => subK _ _ w_ (by assumption) (by assumption)) ?_
      refine o_move rfl rfl ?_
      refine o_extract rfl rfl rfl ?_
      refine o_extract rfl rfl rfl ?_
      refine o_alloc (Val.cs Val.zero) rfl zero23 rfl (fun b18 => ?_)
      refine o_storeBV sz23 (by repeat (first | exact Nth.z | apply Nth.s)) rfl rfl rfl ?_
      refine o_assign rfl rfl ?_
      refine triL_nil ?_
      refine thenQ_normal ?_
      refine tri_seq ?_
      refine tri_slots [(19, _), (18, _), (11, _), (10, _), (9, _), (8, _), (7, _), (1, _)] (.cons rfl (.cons rfl (.cons rfl (.cons rfl (.cons rfl (.cons rfl (.cons rfl (.cons rfl (.nil _))))))))) ?_
      refine tri_region ?_
      refine o_move rfl rfl ?_
      refine o_neqI rfl rfl rfl ?_
      refine o_move rfl rfl ?_
      refine' triL_or [_, _, _] [(11, _), (10, _), (9, _), (8, _), (7, _), (1, _)] (dj := 94) (dr := 97) rfl rfl (fun g4 => ?_) ⟨_, rfl, rfl, rfl, (.cons rfl (.cons rfl (.cons rfl (.cons rfl (.cons rfl (.cons rfl (.nil _)))))))⟩ rfl ?_
      rotate_left
      · skip
        refine o_loadBV agg23 sz23 (by repeat (first | exact Nth.z | apply Nth.s)) rfl rfl ?_
        refine o_loadBV agg23 sz23 (by repeat (first | exact Nth.z | apply Nth.s)) rfl rfl ?_
        refine o_neqV flat23 rfl rfl rfl ?_
        exact triL_nil (Piece.mk rfl rfl (.cons rfl (.cons rfl (.cons rfl (.cons rfl (.cons rfl (.cons rfl (.nil _))))))) (fun _ h => h))
      refine triL_nil ?_
      refine thenQ_normal ?_
      refine tri_cond_false (congrArg (fun b : Bool => some (Value.bool b)) (by rw [back_sub hx e0]; simp)) ?_
      refine tri_skip ?_
      refine thenQ_normal ?_
      exact ⟨(), (.cons rfl (.cons rfl (.cons rfl (.cons rfl (.cons rfl (.cons rfl (.nil _))))))), fun w1 hw1 => hw1.tail.tail.tail.tail, trivial⟩
    · skip
      refine tri_skip ?_
      refine thenQ_normal ?_
      exact ⟨(), (.cons rfl (.cons rfl (.cons rfl (.cons rfl (.cons rfl (.cons rfl (.nil _))))))), fun w1 hw1 => hw1.tail.tail.tail, trivial⟩
  refine tri_seq ?_
  refine tri_region ?_
  refine o_loadBV agg23 sz23 (by repeat (first | exact Nth.z | apply Nth.s)) rfl rfl ?_
  refine o_loadBV agg23 sz23 (by repeat (first | exact Nth.z | apply Nth.s)) rfl rfl ?_
  refine o_callP (first := []) (cap := []) rfl rfl rfl Tryd.call21 (fun w_ hw_ => divK _ _ w_ (by assumption) (by assumption)) ?_
  refine o_move rfl rfl ?_
  refine o_extract rfl rfl rfl ?_
  refine o_extract rfl rfl rfl ?_
  refine o_alloc (Val.cs Val.zero) rfl zero23 rfl (fun b20 => ?_)
  refine o_storeBV sz23 (by repeat (first | exact Nth.z | apply Nth.s)) rfl rfl rfl ?_
  refine o_assign rfl rfl ?_
  refine triL_nil ?_
  refine thenQ_normal ?_
  refine tri_seq ?_
  refine tri_slots [(21, _), (20, _), (1, _), (7, _), (8, _), (9, _), (10, _), (11, _)] (.cons rfl (.cons rfl (.cons rfl (.cons rfl (.cons rfl (.cons rfl (.cons rfl (.cons rfl (.nil _))))))))) ?_
  refine tri_region ?_
  refine o_loadBV agg23 sz23 (by repeat (first | exact Nth.z | apply Nth.s)) rfl rfl ?_
  refine o_loadBV agg23 sz23 (by repeat (first | exact Nth.z | apply Nth.s)) rfl rfl ?_
  refine o_callP (first := []) (cap := []) rfl rfl rfl Tryd.call22 (fun w_ hw_ => modK _ _ w_ (by assumption) (by assumption)) ?_
  refine o_move rfl rfl ?_
  refine o_extract rfl rfl rfl ?_
  refine o_extract rfl rfl rfl ?_
  refine o_alloc (Val.cs Val.zero) rfl zero23 rfl (fun b22 => ?_)
  refine o_storeBV sz23 (by repeat (first | exact Nth.z | apply Nth.s)) rfl rfl rfl ?_
  refine o_assign rfl rfl ?_
  refine triL_nil ?_
  refine thenQ_normal ?_
  refine tri_seq ?_
  refine tri_seq ?_
  refine tri_slots [(23, _), (22, _), (21, _), (20, _), (1, _), (7, _), (8, _), (9, _), (10, _), (11, _)] (.cons rfl (.cons rfl (.cons rfl (.cons rfl (.cons rfl (.cons rfl (.cons rfl (.cons rfl (.cons rfl (.cons rfl (.nil _))))))))))) ?_
  refine tri_region ?_
  refine o_move rfl rfl ?_
  refine o_eqlI rfl rfl rfl ?_
  refine o_move rfl rfl ?_
  refine o_eqlI rfl rfl rfl ?_
  refine o_neqB rfl Tryd.underlying4 rfl rfl ?_
  refine o_move rfl rfl ?_
  refine' triL_or [_, _, _, _, _] [(23, _), (22, _), (21, _), (20, _), (7, _), (8, _), (9, _), (10, _), (11, _)] (dj := 116) (dr := 121) rfl rfl (fun g5 => ?_) ⟨_, rfl, rfl, rfl, (.cons rfl (.cons rfl (.cons rfl (.cons rfl (.cons rfl (.cons rfl (.cons rfl (.cons rfl (.cons rfl (.nil _))))))))))⟩ rfl ?_
  rotate_left
  · skip
    refine o_move rfl rfl ?_
    refine o_eqlI rfl rfl rfl ?_
    refine o_move rfl rfl ?_
    refine o_eqlI rfl rfl rfl ?_
    refine o_neqB rfl Tryd.underlying4 rfl rfl ?_
    exact triL_nil (Piece.mk rfl rfl (.cons rfl (.cons rfl (.cons rfl (.cons rfl (.cons rfl (.cons rfl (.cons rfl (.cons rfl (.cons rfl (.nil _)))))))))) (fun _ h => h))
  refine triL_nil ?_
  refine thenQ_normal ?_
  refine tri_cond_false (congrArg (fun b : Bool => some (Value.bool b)) (by exact dcode_b x y)) ?_
  refine tri_skip ?_
  refine thenQ_normal ?_
  refine tri_join (ι := Unit) (fun u => [(7, .pointer (some ⟨b7, 0, none⟩)), (8, .pointer (some ⟨b8, 0, none⟩)), (9, .pointer (some ⟨b9, 0, none⟩)), (10, .pointer (some ⟨b10, 0, none⟩)), (11, .int .i64 (reck addF (numV x) (numV y)).2)]) (fun u => [box b10 23 (reck addF (numV x) (numV y)).1.cs, box b9 23 (numV z).cs, box b8 23 (numV y).cs, box b7 23 (numV x).cs]) (fun u => True) ?_ (fun u hj => ?_)
  · skip
    refine tri_seq ?_
    refine tri_region ?_
    refine o_move rfl rfl ?_
    refine o_eqlI rfl rfl rfl ?_
    refine triL_nil ?_
    refine thenQ_normal ?_
    refine tri_if rfl (fun d0 => ?_) (fun d0 => ?_)
    · skip
      refine tri_seq ?_
      refine tri_slots [(23, _), (22, _), (20, _), (7, _), (8, _), (9, _), (10, _), (11, _)] (.cons rfl (.cons rfl (.cons rfl (.cons rfl (.cons rfl (.cons rfl (.cons rfl (.cons rfl (.nil _))))))))) ?_
      refine tri_region ?_
      refine o_loadBV agg23 sz23 (by repeat (first | exact Nth.z | apply Nth.s)) rfl rfl ?_
      refine o_loadBV agg23 sz23 (by repeat (first | exact Nth.z | apply Nth.s)) rfl rfl ?_
      refine o_callP (first := []) (cap := []) rfl rfl rfl Tryd.call19 (fun w_ hw_ => mulK _ _ w_ (by assumption) (by assumption)) ?_
      refine o_move rfl rfl ?_
      refine o_extract rfl rfl rfl ?_
      refine o_extract rfl rfl rfl ?_
      refine o_alloc (Val.cs Val.zero) rfl zero23 rfl (fun b24 => ?_)
      refine o_storeBV sz23 (by repeat (first | exact Nth.z | apply Nth.s)) rfl rfl rfl ?_
      refine o_assign rfl rfl ?_
      refine triL_nil ?_
      refine thenQ_normal ?_
      refine tri_seq ?_
      refine tri_slots [(25, _), (24, _), (23, _), (22, _), (7, _), (8, _), (9, _), (10, _), (11, _)] (.cons rfl (.cons rfl (.cons rfl (.cons rfl (.cons rfl (.cons rfl (.cons rfl (.cons rfl (.cons rfl (.nil _)))))))))) ?_
      refine tri_region ?_
      refine o_loadBV agg23 sz23 (by repeat (first | exact Nth.z | apply Nth.s)) rfl rfl ?_
      refine o_loadBV agg23 sz23 (by repeat (first | exact Nth.z | apply Nth.s)) rfl rfl ?_
      refine o_callP (first := []) (cap := []) rfl rfl rfl Tryd.call18 (fun w_ hw_ => addK _ _ w_ (by assumption) (by assumption)) ?_
      refine o_move rfl rfl ?_
      refine o_extract rfl rfl rfl ?_
      refine o_extract rfl rfl rfl ?_
      refine o_alloc (Val.cs Val.zero) rfl zero23 rfl (fun b26 => ?_)
      refine o_storeBV sz23 (by repeat (first | exact Nth.z | apply Nth.s)) rfl rfl rfl ?_
      refine o_assign rfl rfl ?_
      refine triL_nil ?_
      refine thenQ_normal ?_
      refine tri_seq ?_
      refine tri_slots [(27, _), (26, _), (25, _), (23, _), (7, _), (8, _), (9, _), (10, _), (11, _)] (.cons rfl (.cons rfl (.cons rfl (.cons rfl (.cons rfl (.cons rfl (.cons rfl (.cons rfl (.cons rfl (.nil _)))))))))) ?_
      refine tri_region ?_
      refine o_move rfl rfl ?_
      refine o_neqI rfl rfl rfl ?_
      refine o_move rfl rfl ?_
      refine' triL_or [_, _] [(27, _), (26, _), (7, _), (8, _), (9, _), (10, _), (11, _)] (dj := 139) (dr := 141) rfl rfl (fun g6 => ?_) ⟨_, rfl, rfl, rfl, (.cons rfl (.cons rfl (.cons rfl (.cons rfl (.cons rfl (.cons rfl (.cons rfl (.nil _))))))))⟩ rfl ?_
      rotate_left
      · skip
        refine o_move rfl rfl ?_
        refine o_neqI rfl rfl rfl ?_
        exact triL_nil (Piece.mk rfl rfl (.cons rfl (.cons rfl (.cons rfl (.cons rfl (.cons rfl (.cons rfl (.cons rfl (.nil _)))))))) (fun _ h => h))
      refine o_move rfl rfl ?_
      refine' triL_or [_, _] [(26, _), (7, _), (8, _), (9, _), (10, _), (11, _)] (dj := 143) (dr := 145) rfl rfl (fun g7 => ?_) ⟨_, rfl, rfl, rfl, (.cons rfl (.cons rfl (.cons rfl (.cons rfl (.cons rfl (.cons rfl (.nil _)))))))⟩ rfl ?_
      rotate_left
      · skip
        refine o_move rfl rfl ?_
        refine o_neqI rfl rfl rfl ?_
        exact triL_nil (Piece.mk rfl rfl (.cons rfl (.cons rfl (.cons rfl (.cons rfl (.cons rfl (.cons rfl (.nil _))))))) (fun _ h => h))
      refine o_move rfl rfl ?_
      refine' triL_or [_, _, _] [(7, _), (8, _), (9, _), (10, _), (11, _)] (dj := 147) (dr := 150) rfl rfl (fun g8 => ?_) ⟨_, rfl, rfl, rfl, (.cons rfl (.cons rfl (.cons rfl (.cons rfl (.cons rfl (.nil _))))))⟩ rfl ?_
      rotate_left
      · skip
        refine o_loadBV agg23 sz23 (by repeat (first | exact Nth.z | apply Nth.s)) rfl rfl ?_
        refine o_loadBV agg23 sz23 (by repeat (first | exact Nth.z | apply Nth.s)) rfl rfl ?_
        refine o_neqV flat23 rfl rfl rfl ?_
        exact triL_nil (Piece.mk rfl rfl (.cons rfl (.cons rfl (.cons rfl (.cons rfl (.cons rfl (.nil _)))))) (fun _ h => h))
      refine triL_nil ?_
      refine thenQ_normal ?_
      refine tri_cond_false (congrArg (fun b : Bool => some (Value.bool b)) (by obtain ⟨q1, q2, q3⟩ := div_back hx d0; rw [q1, q2, q3]; simp)) ?_
      refine tri_skip ?_
      refine thenQ_normal ?_
      exact ⟨(), (.cons rfl (.cons rfl (.cons rfl (.cons rfl (.cons rfl (.nil _)))))), fun w1 hw1 => hw1.tail.tail.tail.tail, trivial⟩
    · skip
      refine tri_skip ?_
      refine thenQ_normal ?_
      exact ⟨(), (.cons rfl (.cons rfl (.cons rfl (.cons rfl (.cons rfl (.nil _)))))), fun w1 hw1 => hw1.tail.tail, trivial⟩
  refine tri_seq ?_
  refine tri_region ?_
  refine o_loadBV agg23 sz23 (by repeat (first | exact Nth.z | apply Nth.s)) rfl rfl ?_
  refine o_loadBV agg23 sz23 (by repeat (first | exact Nth.z | apply Nth.s)) rfl rfl ?_
  refine o_callP (first := []) (cap := []) rfl rfl rfl Tryd.call19 (fun w_ hw_ => mulK _ _ w_ (by assumption) (by assumption)) ?_
  refine o_move rfl rfl ?_
  refine o_extract rfl rfl rfl ?_
  refine o_extract rfl rfl rfl ?_
  refine o_alloc (Val.cs Val.zero) rfl zero23 rfl (fun b28 => ?_)
  refine o_storeBV sz23 (by repeat (first | exact Nth.z | apply Nth.s)) rfl rfl rfl ?_
  refine o_assign rfl rfl ?_
  refine triL_nil ?_
  refine thenQ_normal ?_
  refine tri_seq ?_
  refine tri_slots [(29, _), (28, _), (8, _), (9, _), (10, _), (11, _)] (.cons rfl (.cons rfl (.cons rfl (.cons rfl (.cons rfl (.cons rfl (.nil _))))))) ?_
  refine tri_region ?_
  refine o_loadBV agg23 sz23 (by repeat (first | exact Nth.z | apply Nth.s)) rfl rfl ?_
  refine o_loadBV agg23 sz23 (by repeat (first | exact Nth.z | apply Nth.s)) rfl rfl ?_
  refine o_callP (first := []) (cap := []) rfl rfl rfl Tryd.call19 (fun w_ hw_ => mulK _ _ w_ (by assumption) (by assumption)) ?_
  refine o_move rfl rfl ?_
  refine o_extract rfl rfl rfl ?_
  refine o_extract rfl rfl rfl ?_
  refine o_alloc (Val.cs Val.zero) rfl zero23 rfl (fun b30 => ?_)
  refine o_storeBV sz23 (by repeat (first | exact Nth.z | apply Nth.s)) rfl rfl rfl ?_
  refine o_assign rfl rfl ?_
  refine triL_nil ?_
  refine thenQ_normal ?_
  refine tri_seq ?_
  refine tri_slots [(31, _), (30, _), (29, _), (28, _), (9, _), (10, _), (11, _)] (.cons rfl (.cons rfl (.cons rfl (.cons rfl (.cons rfl (.cons rfl (.cons rfl (.nil _)))))))) ?_
  refine tri_region ?_
  refine o_loadBV agg23 sz23 (by repeat (first | exact Nth.z | apply Nth.s)) rfl rfl ?_
  refine o_loadBV agg23 sz23 (by repeat (first | exact Nth.z | apply Nth.s)) rfl rfl ?_
  refine o_callP (first := []) (cap := []) rfl rfl rfl Tryd.call19 (fun w_ hw_ => mulK _ _ w_ (by assumption) (by assumption)) ?_
  refine o_move rfl rfl ?_
  refine o_extract rfl rfl rfl ?_
  refine o_extract rfl rfl rfl ?_
  refine o_alloc (Val.cs Val.zero) rfl zero23 rfl (fun b32 => ?_)
  refine o_storeBV sz23 (by repeat (first | exact Nth.z | apply Nth.s)) rfl rfl rfl ?_
  refine o_assign rfl rfl ?_
  refine triL_nil ?_
  refine thenQ_normal ?_
  refine tri_seq ?_
  refine tri_slots [(33, _), (32, _), (31, _), (30, _), (29, _), (28, _), (11, _)] (.cons rfl (.cons rfl (.cons rfl (.cons rfl (.cons rfl (.cons rfl (.cons rfl (.nil _)))))))) ?_
  refine tri_region ?_
  refine o_loadBV agg23 sz23 (by repeat (first | exact Nth.z | apply Nth.s)) rfl rfl ?_
  refine o_loadBV agg23 sz23 (by repeat (first | exact Nth.z | apply Nth.s)) rfl rfl ?_
  refine o_callP (first := []) (cap := []) rfl rfl rfl Tryd.call18 (fun w_ hw_ => addK _ _ w_ (by assumption) (by assumption)) ?_
  refine o_move rfl rfl ?_
  refine o_extract rfl rfl rfl ?_
  refine o_extract rfl rfl rfl ?_
  refine o_alloc (Val.cs Val.zero) rfl zero23 rfl (fun b34 => ?_)
  refine o_storeBV sz23 (by repeat (first | exact Nth.z | apply Nth.s)) rfl rfl rfl ?_
  refine o_assign rfl rfl ?_
  refine triL_nil ?_
  refine thenQ_normal ?_
  refine tri_seq ?_
  refine tri_seq ?_
  refine tri_slots [(35, _), (34, _), (33, _), (32, _), (31, _), (29, _), (11, _)] (.cons rfl (.cons rfl (.cons rfl (.cons rfl (.cons rfl (.cons rfl (.cons rfl (.nil _)))))))) ?_
  refine tri_region ?_
  refine o_move rfl rfl ?_
  refine o_eqlI rfl rfl rfl ?_
  refine o_move rfl rfl ?_
  refine' triL_and [_, _] [(35, _), (34, _), (33, _), (32, _), (31, _)] (dj := 178) (dr := 180) rfl rfl (fun g9 => ?_) ⟨_, rfl, rfl, rfl, (.cons rfl (.cons rfl (.cons rfl (.cons rfl (.cons rfl (.nil _))))))⟩ rfl ?_
  rotate_left
  · skip
    refine o_move rfl rfl ?_
    refine o_eqlI rfl rfl rfl ?_
    exact triL_nil (Piece.mk rfl rfl (.cons rfl (.cons rfl (.cons rfl (.cons rfl (.cons rfl (.nil _)))))) (fun _ h => h))
  refine o_move rfl rfl ?_
  refine' triL_and [_, _] [(35, _), (34, _), (33, _), (32, _)] (dj := 182) (dr := 184) rfl rfl (fun g10 => ?_) ⟨_, rfl, rfl, rfl, (.cons rfl (.cons rfl (.cons rfl (.cons rfl (.nil _)))))⟩ rfl ?_
  rotate_left
  · skip
    refine o_move rfl rfl ?_
    refine o_eqlI rfl rfl rfl ?_
    exact triL_nil (Piece.mk rfl rfl (.cons rfl (.cons rfl (.cons rfl (.cons rfl (.nil _))))) (fun _ h => h))
  refine o_move rfl rfl ?_
  refine' triL_and [_, _] [(35, _), (34, _), (32, _)] (dj := 186) (dr := 188) rfl rfl (fun g11 => ?_) ⟨_, rfl, rfl, rfl, (.cons rfl (.cons rfl (.cons rfl (.nil _))))⟩ rfl ?_
  rotate_left
  · skip
    refine o_move rfl rfl ?_
    refine o_eqlI rfl rfl rfl ?_
    exact triL_nil (Piece.mk rfl rfl (.cons rfl (.cons rfl (.cons rfl (.nil _)))) (fun _ h => h))
  refine o_move rfl rfl ?_
  refine' triL_and [_, _, _, _, _, _, _] [] (dj := 190) (dr := 197) rfl rfl (fun g12 => ?_) ⟨_, rfl, rfl, rfl, (.nil _)⟩ rfl ?_
  rotate_left
  · skip
    refine o_move rfl rfl ?_
    refine o_neqI rfl rfl rfl ?_
    refine o_move rfl rfl ?_
    refine' triL_or [_, _, _] [(190, _)] (dj := 193) (dr := 196) rfl rfl (fun g13 => ?_) ⟨_, rfl, rfl, rfl, (.cons rfl (.nil _))⟩ rfl ?_
    rotate_left
    · skip
      refine o_loadBV agg23 sz23 (by repeat (first | exact Nth.z | apply Nth.s)) rfl rfl ?_
      refine o_loadBV agg23 sz23 (by repeat (first | exact Nth.z | apply Nth.s)) rfl rfl ?_
      refine o_neqV flat23 rfl rfl rfl ?_
      exact triL_nil (Piece.mk rfl rfl (.cons rfl (.nil _)) (fun _ h => h))
    exact triL_nil (Piece.mk rfl rfl (.nil _) (fun _ h => h))
  refine triL_nil ?_
  refine thenQ_normal ?_
  refine tri_cond_false (congrArg (fun b : Bool => some (Value.bool b)) (by exact ring_b x y z)) ?_
  refine tri_skip ?_
  refine thenQ_normal ?_
  refine tri_seq ?_
  refine tri_region ?_
  refine o_callP (first := []) (cap := []) rfl rfl rfl Tryd.call16 (fun w_ hw_ => awakeK w_ (hL.chg hw_.chg)) ?_
  refine o_assign rfl rfl ?_
  refine triL_nil ?_
  refine thenQ_normal ?_
  refine tri_ret ?_
  refine end1 rfl rfl ?_
  exact fin_pure

end Go.Proofs.YtgogkkkacpacgaaDoor
