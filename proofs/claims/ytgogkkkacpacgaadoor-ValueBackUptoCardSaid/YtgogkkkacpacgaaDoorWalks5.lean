/- the values' functions, walked: print; a few answers that the chapter fixes -/
import Derived.Test.YtgogkkkacpacgaaDoorWalks4
namespace Go.Proofs.YtgogkkkacpacgaaDoor
open Go.WK Go.RowKit 



theorem printK (v : Val) (w : World) (f : fit v) (hL : LV w) : Calls Tryd.prog 41 #[aggV v] w (Pure w (.tuple #[.string (B (prV v).1), .int .i64 (prV v).2])) := by
  refine calls_tri (args := [aggV v]) (lent := []) (H := []) Tryd.func41 rfl Tryd.ntmps41 rfl (Sat.start _ _ _ _) ?_
  refine (show Tri _ [(0, _)] _ _ _ from ?_)
  have fs := f.2
  refine tri_seq ?_
  refine tri_region ?_
  refine o_box (Val.cs _) rfl rfl rfl (fun b1 => ?_)
  refine o_assign rfl rfl ?_
  refine o_assign rfl rfl ?_
  refine triL_nil ?_
  refine thenQ_normal ?_
  refine tri_seq ?_
  refine tri_seq ?_
  refine tri_region ?_
  refine o_loadBV agg23 sz23 (by first | exact Nth.z | exact .s .z | exact .s (.s .z) | exact .s (.s (.s .z)) | exact .s (.s (.s (.s .z))) | exact .s (.s (.s (.s (.s .z)))) | exact .s (.s (.s (.s (.s (.s .z))))) | exact .s (.s (.s (.s (.s (.s (.s .z))))))) rfl rfl ?_
  refine o_callP (first := []) (cap := []) rfl rfl rfl Tryd.call14 (fun w_ hw_ => mayK _ w_ (by assumption)) ?_
  refine o_not rfl rfl ?_
  refine triL_nil ?_
  refine thenQ_normal ?_
  refine tri_cond rfl (fun h0 => ?_) (fun h0 => ?_)
  · skip
    have h0 : ¬ may v = true := by simpa using h0
    refine tri_seq ?_
    refine tri_slots [] (.nil _) ?_
    refine tri_region ?_
    refine o_assign rfl rfl ?_
    refine o_assign rfl rfl ?_
    refine triL_nil ?_
    refine thenQ_normal ?_
    refine tri_ret ?_
    refine thenQ_ret ?_
    refine end2 rfl rfl rfl ?_
    exact fun w1 hw1 => ⟨by have e : prV v = ([], 5) := (by rw [prV, if_neg h0]); rw [e] <;> rfl, hw1.chg⟩
  · skip
    have h0 : may v = true := by simpa using h0
    refine tri_skip ?_
    refine thenQ_normal ?_
    refine tri_seq ?_
    refine tri_seq ?_
    refine tri_slots [(1, _)] (.cons rfl (.nil _)) ?_
    refine tri_region ?_
    refine o_field fo23_0 rfl rfl ?_
    refine o_load agg3 (by first | exact Nth.z | exact .s .z | exact .s (.s .z) | exact .s (.s (.s .z)) | exact .s (.s (.s (.s .z))) | exact .s (.s (.s (.s (.s .z)))) | exact .s (.s (.s (.s (.s (.s .z))))) | exact .s (.s (.s (.s (.s (.s (.s .z))))))) rfl rfl rfl ?_
    refine triL_nil ?_
    refine thenQ_normal ?_
    refine tri_block ?_
    refine tri_seq ?_
    refine tri_region ?_
    refine o_eqlI rfl rfl rfl ?_
    refine o_assign rfl rfl ?_
    refine triL_nil ?_
    refine thenQ_normal ?_
    refine tri_if rfl (fun k1 => ?_) (fun k1 => ?_)
    · skip
      refine tri_seq ?_
      refine tri_slots [(1, _)] (.cons rfl (.nil _)) ?_
      refine tri_region ?_
      refine o_field fo23_1 rfl rfl ?_
      refine o_load agg2 (by first | exact Nth.z | exact .s .z | exact .s (.s .z) | exact .s (.s (.s .z)) | exact .s (.s (.s (.s .z))) | exact .s (.s (.s (.s (.s .z)))) | exact .s (.s (.s (.s (.s (.s .z))))) | exact .s (.s (.s (.s (.s (.s (.s .z))))))) rfl rfl rfl ?_
      refine o_callP (first := []) (cap := []) rfl rfl rfl Tryd.call69 (fun w1 h1 => lib_format v.n w1 (nIn f) (hL.chg h1.chg)) ?_
      refine o_assign rfl rfl ?_
      refine o_assign rfl rfl ?_
      refine triL_nil ?_
      refine thenQ_normal ?_
      refine tri_ret ?_
      refine blockQ_ret ?_
      refine thenQ_ret ?_
      refine end2 rfl rfl rfl ?_
      exact fun w1 hw1 => ⟨by have e : prV v = (Lib.itoa v.n, 0) := (by rw [prV, if_pos h0, if_pos k1]); rw [e] <;> rfl, hw1.chg⟩
    · skip
      refine tri_seq ?_
      refine tri_region ?_
      refine o_eqlI rfl rfl rfl ?_
      refine o_assign rfl rfl ?_
      refine triL_nil ?_
      refine thenQ_normal ?_
      refine tri_if rfl (fun k2 => ?_) (fun k2 => ?_)
      · skip
        have ht := may_text h0 k2
        have hd := dbl_len v.s
        refine tri_seq ?_
        refine tri_slots [(1, _)] (.cons rfl (.nil _)) ?_
        refine tri_region ?_
        refine o_field fo23_2 rfl rfl ?_
        refine o_load agg9 (by first | exact Nth.z | exact .s .z | exact .s (.s .z) | exact .s (.s (.s .z)) | exact .s (.s (.s (.s .z))) | exact .s (.s (.s (.s (.s .z)))) | exact .s (.s (.s (.s (.s (.s .z))))) | exact .s (.s (.s (.s (.s (.s (.s .z))))))) rfl rfl rfl ?_
        refine o_callP (first := []) (cap := []) rfl rfl rfl Tryd.call70 (fun w1 h1 => lib_dbl v.s w1 (by omega) (hL.chg h1.chg)) ?_
        refine o_cat rfl rfl rfl (by simp only [List.length_cons, List.length_nil]; omega) ?_
        refine o_cat rfl rfl rfl (by simp only [List.length_append, List.length_cons, List.length_nil]; omega) ?_
        refine o_assign rfl rfl ?_
        refine o_assign rfl rfl ?_
        refine triL_nil ?_
        refine thenQ_normal ?_
        refine tri_ret ?_
        refine blockQ_ret ?_
        refine thenQ_ret ?_
        refine end2 rfl rfl rfl ?_
        exact fun w1 hw1 => ⟨by have e : prV v = (39 :: (dbl v.s ++ [39]), 0) := (by rw [prV, if_pos h0, if_neg k1, if_pos k2]); rw [e] <;> rfl, hw1.chg⟩
      · skip
        refine tri_seq ?_
        refine tri_slots [(8, _), (1, _)] (.cons rfl (.cons rfl (.nil _))) ?_
        refine tri_region ?_
        refine o_eqlI rfl rfl rfl ?_
        refine o_assign rfl rfl ?_
        refine triL_nil ?_
        refine thenQ_normal ?_
        refine tri_if rfl (fun k3 => ?_) (fun k3 => ?_)
        · skip
          refine tri_seq ?_
          refine tri_seq ?_
          refine tri_region ?_
          refine o_field fo23_1 rfl rfl ?_
          refine o_load agg2 (by first | exact Nth.z | exact .s .z | exact .s (.s .z) | exact .s (.s (.s .z)) | exact .s (.s (.s (.s .z))) | exact .s (.s (.s (.s (.s .z)))) | exact .s (.s (.s (.s (.s (.s .z))))) | exact .s (.s (.s (.s (.s (.s (.s .z))))))) rfl rfl rfl ?_
          refine o_eqlI rfl rfl rfl ?_
          refine triL_nil ?_
          refine thenQ_normal ?_
          refine tri_if rfl (fun k4 => ?_) (fun k4 => ?_)
          · skip
            refine tri_seq ?_
            refine tri_slots [] (.nil _) ?_
            refine tri_region ?_
            refine o_assign rfl rfl ?_
            refine o_assign rfl rfl ?_
            refine triL_nil ?_
            refine thenQ_normal ?_
            refine tri_ret ?_
            refine thenQ_ret ?_
            refine blockQ_ret ?_
            refine thenQ_ret ?_
            refine end2 rfl rfl rfl ?_
            exact fun w1 hw1 => ⟨by have e : prV v = ([116, 114, 117, 101], 0) := (by rw [prV, if_pos h0, if_neg k1, if_neg k2, if_pos k3, if_pos k4]); rw [e] <;> rfl, hw1.chg⟩
          · skip
            refine tri_skip ?_
            refine thenQ_normal ?_
            refine tri_seq ?_
            refine tri_slots [] (.nil _) ?_
            refine tri_region ?_
            refine o_assign rfl rfl ?_
            refine o_assign rfl rfl ?_
            refine triL_nil ?_
            refine thenQ_normal ?_
            refine tri_ret ?_
            refine blockQ_ret ?_
            refine thenQ_ret ?_
            refine end2 rfl rfl rfl ?_
            exact fun w1 hw1 => ⟨by have e : prV v = ([102, 97, 108, 115, 101], 0) := (by rw [prV, if_pos h0, if_neg k1, if_neg k2, if_pos k3, if_neg k4]); rw [e] <;> rfl, hw1.chg⟩
        · skip
          refine tri_skip ?_
          refine blockQ_normal ?_
          refine thenQ_normal ?_
          refine tri_seq ?_
          refine tri_slots [] (.nil _) ?_
          refine tri_region ?_
          refine o_assign rfl rfl ?_
          refine o_assign rfl rfl ?_
          refine triL_nil ?_
          refine thenQ_normal ?_
          refine tri_ret ?_
          refine end2 rfl rfl rfl ?_
          exact fun w1 hw1 => ⟨by have e : prV v = ([110, 117, 108, 108], 0) := (by rw [prV, if_pos h0, if_neg k1, if_neg k2, if_neg k3]); rw [e] <;> rfl, hw1.chg⟩

theorem numK (n : Int) (w : World)  : Calls Tryd.prog 17 #[.int .i64 n] w (Pure w (aggV (numV n))) := by
  refine calls_tri (args := [.int .i64 n]) (lent := []) (H := []) Tryd.func17 rfl Tryd.ntmps17 rfl (Sat.start _ _ _ _) ?_
  refine (show Tri _ [(0, _)] _ _ _ from ?_)
  refine tri_seq ?_
  refine tri_region ?_
  refine o_alloc (Val.cs Val.zero) rfl zero23 rfl (fun b2 => ?_)
  refine triL_nil ?_
  refine thenQ_normal ?_
  refine tri_seq ?_
  refine tri_region ?_
  refine o_move rfl rfl ?_
  refine o_build (bval23_0_1 _ _) rfl rfl ?_
  refine o_storeBV sz23 (by first | exact Nth.z | exact .s .z | exact .s (.s .z) | exact .s (.s (.s .z)) | exact .s (.s (.s (.s .z))) | exact .s (.s (.s (.s (.s .z)))) | exact .s (.s (.s (.s (.s (.s .z))))) | exact .s (.s (.s (.s (.s (.s (.s .z))))))) rfl rfl rfl ?_
  refine triL_nil ?_
  refine thenQ_normal ?_
  refine tri_ret ?_
  refine endC1 rfl agg23 sz23 (by first | exact Nth.z | exact .s .z | exact .s (.s .z) | exact .s (.s (.s .z)) | exact .s (.s (.s (.s .z))) | exact .s (.s (.s (.s (.s .z)))) | exact .s (.s (.s (.s (.s (.s .z))))) | exact .s (.s (.s (.s (.s (.s (.s .z))))))) rfl rfl ?_
  exact fin_pure

theorem textK (s : List UInt8) (w : World)  : Calls Tryd.prog 47 #[.string (B s)] w (Pure w (aggV ⟨2, 0, s⟩)) := by
  refine calls_tri (args := [.string (B s)]) (lent := []) (H := []) Tryd.func47 rfl Tryd.ntmps47 rfl (Sat.start _ _ _ _) ?_
  refine (show Tri _ [(0, _)] _ _ _ from ?_)
  refine tri_seq ?_
  refine tri_region ?_
  refine o_alloc (Val.cs Val.zero) rfl zero23 rfl (fun b2 => ?_)
  refine triL_nil ?_
  refine thenQ_normal ?_
  refine tri_seq ?_
  refine tri_region ?_
  refine o_move rfl rfl ?_
  refine o_build (bval23_0_2 _ _) rfl rfl ?_
  refine o_storeBV sz23 (by first | exact Nth.z | exact .s .z | exact .s (.s .z) | exact .s (.s (.s .z)) | exact .s (.s (.s (.s .z))) | exact .s (.s (.s (.s (.s .z)))) | exact .s (.s (.s (.s (.s (.s .z))))) | exact .s (.s (.s (.s (.s (.s (.s .z))))))) rfl rfl rfl ?_
  refine triL_nil ?_
  refine thenQ_normal ?_
  refine tri_ret ?_
  refine endC1 rfl agg23 sz23 (by first | exact Nth.z | exact .s .z | exact .s (.s .z) | exact .s (.s (.s .z)) | exact .s (.s (.s (.s .z))) | exact .s (.s (.s (.s (.s .z)))) | exact .s (.s (.s (.s (.s (.s .z))))) | exact .s (.s (.s (.s (.s (.s (.s .z))))))) rfl rfl ?_
  exact fin_pure

theorem fitZ : fit Val.zero := ⟨⟨⟨by decide, by decide⟩, ⟨by decide, by decide⟩⟩, by decide⟩
theorem fitN {n : Int} (h : inR n = true) : fit (numV n) := ⟨⟨⟨by simp [numV], by simp [numV]⟩, inR_iff.1 h⟩, by simp [numV]⟩
theorem fitT (b : Bool) : fit (truth b) := by cases b <;> exact ⟨⟨⟨by decide, by decide⟩, ⟨by decide, by decide⟩⟩, by decide⟩
theorem fitS {s : List UInt8} (h : s.length ≤ 140737488355328) : fit ⟨2, 0, s⟩ := ⟨⟨⟨by simp, by simp⟩, ⟨by simp, by simp⟩⟩, h⟩
theorem aw1 : cmpE Val.zero (numV 1) = (-1, 0) := by decide
theorem aw2 : reckZ divF (numV (-7)) (numV 2) = (numV (-3), 0) := by decide
theorem aw3 : prV ⟨2, 0, [105, 116, 39, 115]⟩ = ([39, 105, 116, 39, 39, 115, 39], 0) := by decide
theorem awC (w : World) : Calls Tryd.prog 12 #[aggV Val.zero, aggV (numV 1)] w (Pure w (.tuple #[.int .i64 (-1), .int .i64 0])) := by
  have h := cmpK Val.zero (numV 1) w fitZ (fitN (by decide))
  rw [aw1] at h
  exact h
theorem awD (w : World) : Calls Tryd.prog 21 #[aggV (numV (-7)), aggV (numV 2)] w (Pure w (resV (numV (-3), 0))) := by
  have h := divK (numV (-7)) (numV 2) w (fitN (by decide)) (fitN (by decide))
  rw [aw2] at h
  exact h
theorem awP (w : World) (hL : LV w) : Calls Tryd.prog 41 #[aggV ⟨2, 0, [105, 116, 39, 115]⟩] w (Pure w (.tuple #[.string (B [39, 105, 116, 39, 39, 115, 39]), .int .i64 0])) := by
  have h := printK ⟨2, 0, [105, 116, 39, 115]⟩ w (fitS (by decide)) hL
  rw [aw3] at h
  exact h
theorem awM (w : World) : Calls Tryd.prog 14 #[aggV (numV 4)] w (Pure w (.bool true)) := mayK (numV 4) w (fitN (by decide))

theorem awakeK  (w : World) (hL : LV w) : Calls Tryd.prog 16 #[] w (Pure w (.bool true)) := by
  refine calls_tri (args := []) (lent := []) (H := []) Tryd.func16 rfl Tryd.ntmps16 rfl (Sat.start _ _ _ _) ?_
  refine (show Tri _ [] _ _ _ from ?_)
  refine tri_seq ?_
  refine tri_region ?_
  refine o_assign rfl rfl ?_
  refine triL_nil ?_
  refine thenQ_normal ?_
  refine tri_seq ?_
  refine tri_region ?_
  refine o_build bval23 rfl rfl ?_
  refine o_callP (first := []) (cap := []) rfl rfl rfl Tryd.call17 (fun w1 h1 => numK 1 w1) ?_
  refine o_callP (first := []) (cap := []) rfl rfl rfl Tryd.call12 (fun w1 h1 => awC w1) ?_
  refine o_move rfl rfl ?_
  refine o_extract rfl rfl rfl ?_
  refine o_extract rfl rfl rfl ?_
  refine o_assign rfl rfl ?_
  refine o_assign rfl rfl ?_
  refine triL_nil ?_
  refine thenQ_normal ?_
  refine tri_seq ?_
  refine tri_slots [(2, _), (1, _)] (.cons rfl (.cons rfl (.nil _))) ?_
  refine tri_region ?_
  refine o_callP (first := []) (cap := []) rfl rfl rfl Tryd.call17 (fun w1 h1 => numK (-7) w1) ?_
  refine o_callP (first := []) (cap := []) rfl rfl rfl Tryd.call17 (fun w1 h1 => numK 2 w1) ?_
  refine o_callP (first := []) (cap := []) rfl rfl rfl Tryd.call21 (fun w1 h1 => awD w1) ?_
  refine o_move rfl rfl ?_
  refine o_extract rfl rfl rfl ?_
  refine o_extract rfl rfl rfl ?_
  refine o_alloc (Val.cs Val.zero) rfl zero23 rfl (fun b3 => ?_)
  refine o_storeBV sz23 (by first | exact Nth.z | exact .s .z | exact .s (.s .z) | exact .s (.s (.s .z)) | exact .s (.s (.s (.s .z))) | exact .s (.s (.s (.s (.s .z)))) | exact .s (.s (.s (.s (.s (.s .z))))) | exact .s (.s (.s (.s (.s (.s (.s .z))))))) rfl rfl rfl ?_
  refine o_assign rfl rfl ?_
  refine triL_nil ?_
  refine thenQ_normal ?_
  refine tri_seq ?_
  refine tri_slots [(4, _), (3, _), (2, _), (1, _)] (.cons rfl (.cons rfl (.cons rfl (.cons rfl (.nil _))))) ?_
  refine tri_region ?_
  refine o_callP (first := []) (cap := []) rfl rfl rfl Tryd.call47 (fun w1 h1 => textK [105, 116, 39, 115] w1) ?_
  refine o_callP (first := []) (cap := []) rfl rfl rfl Tryd.call41 (fun w1 h1 => awP w1 (hL.chg h1.chg)) ?_
  refine o_move rfl rfl ?_
  refine o_extract rfl rfl rfl ?_
  refine o_extract rfl rfl rfl ?_
  refine o_assign rfl rfl ?_
  refine o_assign rfl rfl ?_
  refine triL_nil ?_
  refine thenQ_normal ?_
  refine tri_seq ?_
  refine tri_slots [(6, _), (5, _), (4, _), (3, _), (2, _), (1, _)] (.cons rfl (.cons rfl (.cons rfl (.cons rfl (.cons rfl (.cons rfl (.nil _))))))) ?_
  refine tri_quiet (by kernel_rfl) (by kernel_rfl) ?_
  refine o_move rfl rfl ?_
  refine o_eqlI rfl rfl rfl ?_
  refine o_move rfl rfl ?_
  refine' triL_and [_, _] [(6, _), (5, _), (4, _), (3, _)] (dj := 26) (dr := 28) rfl rfl (fun g1 => ?_) ⟨_, rfl, rfl, rfl, (.cons rfl (.cons rfl (.cons rfl (.cons rfl (.nil _)))))⟩ rfl ?_
  rotate_left
  · skip
    refine o_move rfl rfl ?_
    refine o_eqlI rfl rfl rfl ?_
    exact triL_nil (Piece.mk rfl rfl (.cons rfl (.cons rfl (.cons rfl (.cons rfl (.nil _))))) (fun _ h => h))
  refine o_move rfl rfl ?_
  refine' triL_and [_, _, _] [(6, _), (5, _), (4, _)] (dj := 30) (dr := 33) rfl rfl (fun g2 => ?_) ⟨_, rfl, rfl, rfl, (.cons rfl (.cons rfl (.cons rfl (.nil _))))⟩ rfl ?_
  rotate_left
  · skip
    refine o_loadBV agg23 sz23 (by first | exact Nth.z | exact .s .z | exact .s (.s .z) | exact .s (.s (.s .z)) | exact .s (.s (.s (.s .z))) | exact .s (.s (.s (.s (.s .z)))) | exact .s (.s (.s (.s (.s (.s .z))))) | exact .s (.s (.s (.s (.s (.s (.s .z))))))) rfl rfl ?_
    refine o_callP (first := []) (cap := []) rfl rfl rfl Tryd.call17 (fun w1 h1 => numK (-3) w1) ?_
    refine o_eqlV flat23 rfl rfl rfl ?_
    exact triL_nil (Piece.mk rfl rfl (.cons rfl (.cons rfl (.cons rfl (.nil _)))) (fun _ h => h))
  refine o_move rfl rfl ?_
  refine' triL_and [_, _] [(6, _), (5, _)] (dj := 35) (dr := 37) rfl rfl (fun g3 => ?_) ⟨_, rfl, rfl, rfl, (.cons rfl (.cons rfl (.nil _)))⟩ rfl ?_
  rotate_left
  · skip
    refine o_move rfl rfl ?_
    refine o_eqlI rfl rfl rfl ?_
    exact triL_nil (Piece.mk rfl rfl (.cons rfl (.cons rfl (.nil _))) (fun _ h => h))
  refine o_move rfl rfl ?_
  refine' triL_and [_, _] [(6, _)] (dj := 39) (dr := 41) rfl rfl (fun g4 => ?_) ⟨_, rfl, rfl, rfl, (.cons rfl (.nil _))⟩ rfl ?_
  rotate_left
  · skip
    refine o_move rfl rfl ?_
    refine o_eqlT rfl rfl rfl ?_
    exact triL_nil (Piece.mk rfl rfl (.cons rfl (.nil _)) (fun _ h => h))
  refine o_move rfl rfl ?_
  refine' triL_and [_, _] [] (dj := 43) (dr := 45) rfl rfl (fun g5 => ?_) ⟨_, rfl, rfl, rfl, (.nil _)⟩ rfl ?_
  rotate_left
  · skip
    refine o_move rfl rfl ?_
    refine o_eqlI rfl rfl rfl ?_
    exact triL_nil (Piece.mk rfl rfl (.nil _) (fun _ h => h))
  refine o_move rfl rfl ?_
  refine' triL_and [_, _] [] (dj := 47) (dr := 49) rfl rfl (fun g6 => ?_) ⟨_, rfl, rfl, rfl, (.nil _)⟩ rfl ?_
  rotate_left
  · skip
    refine o_callP (first := []) (cap := []) rfl rfl rfl Tryd.call17 (fun w1 h1 => numK 4 w1) ?_
    refine o_callP (first := []) (cap := []) rfl rfl rfl Tryd.call14 (fun w1 h1 => awM w1) ?_
    exact triL_nil (Piece.mk rfl rfl (.nil _) (fun _ h => h))
  refine o_assign rfl rfl ?_
  refine triL_nil ?_
  refine thenQ_normal ?_
  refine tri_ret ?_
  refine end1 rfl rfl ?_
  exact fun w1 hw1 => ⟨by simp, hw1.chg⟩

end Go.Proofs.YtgogkkkacpacgaaDoor
