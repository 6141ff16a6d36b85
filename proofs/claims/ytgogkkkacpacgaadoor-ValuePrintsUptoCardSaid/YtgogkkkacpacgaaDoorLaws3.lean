/- the values' laws, walked: written and read -/
import Derived.Test.YtgogkkkacpacgaaDoorWalks8
namespace Go.Proofs.YtgogkkkacpacgaaDoor
open Go.WK Go.RowKit 



theorem fit_rd (s : List UInt8) : fit (rdV s).1 := by
  unfold rdV
  split
  · exact fitZ
  · split
    · exact fitT _
    · split
      · rename_i n hn
        exact fitN (numR_some hn).2
      · split
        · split
          · exact fitS (by omega)
          · exact fitZ
        · exact fitZ
theorem pr_len {v : Val} (f : fit v) : (prV v).1.length ≤ 200 := by
  unfold prV
  by_cases h : may v = true
  · rw [if_pos h]
    by_cases h1 : v.k = 1
    · rw [if_pos h1]
      show (Lib.itoa v.n).length ≤ 200
      obtain ⟨n1, n2⟩ := inR_iff.1 (nIn f)
      by_cases hn : v.n < 0
      · rw [itoa_neg hn]
        have := dec_len (u := v.n.natAbs) (by omega)
        simp; omega
      · rw [itoa_pos hn]
        have := dec_len (u := v.n.toNat) (by omega)
        omega
    · rw [if_neg h1]
      by_cases h2 : v.k = 2
      · rw [if_pos h2]
        have := dbl_len v.s
        have := may_text h h2
        simp; omega
      · rw [if_neg h2]
        split
        · split <;> simp
        · simp
  · rw [if_neg h]; simp
theorem code_b (v : Val) : (decide ((prV v).2 = 0) != may v) = false := by
  have h : decide ((prV v).2 = 0) = may v := by rw [Bool.eq_iff_iff, decide_eq_true_iff]; exact pr_code v
  rw [h]; simp
theorem back_b {v : Val} (f : fit v) (h : (prV v).2 = 0) : (decide ((rdV (prV v).1).2 ≠ 0) || !decide ((rdV (prV v).1).1 = v)) = false := by
  rw [rd_pr ((pr_code v).1 h) f.1]
  simp
theorem forth_b {s : List UInt8} (h : (rdV s).2 = 0) : (decide ((prV (rdV s).1).2 ≠ 0) || decide ((prV (rdV s).1).1 ≠ s)) = false := by
  rw [pr_rd h]
  simp

theorem valuePrints (v : Val) (s : List UInt8) (w : World) (f : fit v) (hs : s.length ≤ 4294967280) (hL : LV w) (hE : LE w) : Calls Tryd.prog 10 #[aggV v, .string (B s)] w (Pure w (.bool true)) := by
  refine calls_tri (args := [aggV v, .string (B s)]) (lent := []) (H := []) Tryd.func10 rfl Tryd.ntmps10 rfl (Sat.start _ _ _ _) ?_
  refine (show Tri _ [(0, _), (1, _)] _ _ _ from ?_)
  refine tri_seq ?_
  refine tri_region ?_
  refine o_box (Val.cs _) rfl rfl rfl (fun b2 => ?_)
  refine o_assign rfl rfl ?_
  refine triL_nil ?_
  refine thenQ_normal ?_
  refine tri_seq ?_
  refine tri_region ?_
  refine o_loadBV agg23 sz23 (by repeat (first | exact Nth.z | apply Nth.s)) rfl rfl ?_
  refine o_callP (first := []) (cap := []) rfl rfl rfl Tryd.call41 (fun w1 h1 => printK v w1 f (hL.chg h1.chg)) ?_
  refine o_move rfl rfl ?_
  refine o_extract rfl rfl rfl ?_
  refine o_extract rfl rfl rfl ?_
  refine o_assign rfl rfl ?_
  refine o_assign rfl rfl ?_
  refine triL_nil ?_
  refine thenQ_normal ?_
  refine tri_seq ?_
  refine tri_slots [(6, _), (5, _), (2, _), (1, _)] (.cons rfl (.cons rfl (.cons rfl (.cons rfl (.nil _))))) ?_
  refine tri_region ?_
  refine o_loadBV agg23 sz23 (by repeat (first | exact Nth.z | apply Nth.s)) rfl rfl ?_
  refine o_callP (first := []) (cap := []) rfl rfl rfl Tryd.call42 (fun w1 h1 => printR v w1 f) ?_
  refine o_move rfl rfl ?_
  refine o_extract rfl rfl rfl ?_
  refine o_extract rfl rfl rfl ?_
  refine o_assign rfl rfl ?_
  refine o_assign rfl rfl ?_
  refine triL_nil ?_
  refine thenQ_normal ?_
  refine tri_seq ?_
  refine tri_slots [(8, _), (7, _), (6, _), (5, _), (1, _)] (.cons rfl (.cons rfl (.cons rfl (.cons rfl (.cons rfl (.nil _)))))) ?_
  refine tri_region ?_
  refine o_move rfl rfl ?_
  refine o_callP (first := []) (cap := []) rfl rfl rfl Tryd.call43 (fun w1 h1 => readK s w1 hs (hL.chg h1.chg) (hE.chg h1.chg)) ?_
  refine o_move rfl rfl ?_
  refine o_extract rfl rfl rfl ?_
  refine o_extract rfl rfl rfl ?_
  refine o_alloc (Val.cs Val.zero) rfl zero23 rfl (fun b9 => ?_)
  refine o_storeBV sz23 (by repeat (first | exact Nth.z | apply Nth.s)) rfl rfl rfl ?_
  refine o_assign rfl rfl ?_
  refine triL_nil ?_
  refine thenQ_normal ?_
  refine tri_seq ?_
  refine tri_slots [(10, _), (9, _), (8, _), (7, _), (6, _), (5, _), (1, _)] (.cons rfl (.cons rfl (.cons rfl (.cons rfl (.cons rfl (.cons rfl (.cons rfl (.nil _)))))))) ?_
  refine tri_region ?_
  refine o_move rfl rfl ?_
  refine o_callP (first := []) (cap := []) rfl rfl rfl Tryd.call44 (fun w1 h1 => readR s w1 (by omega)) ?_
  refine o_move rfl rfl ?_
  refine o_extract rfl rfl rfl ?_
  refine o_extract rfl rfl rfl ?_
  refine o_alloc (Val.cs Val.zero) rfl zero23 rfl (fun b11 => ?_)
  refine o_storeBV sz23 (by repeat (first | exact Nth.z | apply Nth.s)) rfl rfl rfl ?_
  refine o_assign rfl rfl ?_
  refine triL_nil ?_
  refine thenQ_normal ?_
  refine tri_seq ?_
  refine tri_slots [(12, _), (11, _), (10, _), (9, _), (8, _), (7, _), (6, _), (5, _)] (.cons rfl (.cons rfl (.cons rfl (.cons rfl (.cons rfl (.cons rfl (.cons rfl (.cons rfl (.nil _))))))))) ?_
  refine tri_region ?_
  refine o_move rfl rfl ?_
  refine o_move rfl rfl ?_
  refine o_eqlT rfl rfl rfl ?_
  refine o_move rfl rfl ?_
  refine' triL_and [_, _, _] [(12, _), (11, _), (10, _), (9, _)] (dj := 36) (dr := 39) rfl rfl (fun g1 => ?_) ⟨_, rfl, rfl, rfl, (.cons rfl (.cons rfl (.cons rfl (.cons rfl (.nil _)))))⟩ rfl ?_
  rotate_left
  · skip
    refine o_move rfl rfl ?_
    refine o_move rfl rfl ?_
    refine o_eqlI rfl rfl rfl ?_
    exact triL_nil (Piece.mk rfl rfl (.cons rfl (.cons rfl (.cons rfl (.cons rfl (.nil _))))) (fun _ h => h))
  refine o_move rfl rfl ?_
  refine' triL_and [_, _, _] [(12, _), (10, _)] (dj := 41) (dr := 44) rfl rfl (fun g2 => ?_) ⟨_, rfl, rfl, rfl, (.cons rfl (.cons rfl (.nil _)))⟩ rfl ?_
  rotate_left
  · skip
    refine o_loadBV agg23 sz23 (by repeat (first | exact Nth.z | apply Nth.s)) rfl rfl ?_
    refine o_loadBV agg23 sz23 (by repeat (first | exact Nth.z | apply Nth.s)) rfl rfl ?_
    refine o_eqlV flat23 rfl rfl rfl ?_
    exact triL_nil (Piece.mk rfl rfl (.cons rfl (.cons rfl (.nil _))) (fun _ h => h))
  refine o_move rfl rfl ?_
  refine' triL_and [_, _, _] [] (dj := 46) (dr := 49) rfl rfl (fun g3 => ?_) ⟨_, rfl, rfl, rfl, (.nil _)⟩ rfl ?_
  rotate_left
  · skip
    refine o_move rfl rfl ?_
    refine o_move rfl rfl ?_
    refine o_eqlI rfl rfl rfl ?_
    exact triL_nil (Piece.mk rfl rfl (.nil _) (fun _ h => h))
  refine o_move rfl rfl ?_
  refine' triL_and [_] [] (dj := 51) (dr := 52) rfl rfl (fun g4 => ?_) ⟨_, rfl, rfl, rfl, (.nil _)⟩ rfl ?_
  rotate_left
  · skip
    refine o_callP (first := []) (cap := []) rfl rfl rfl Tryd.call16 (fun w_ hw_ => awakeK w_ (hL.chg hw_.chg)) ?_
    exact triL_nil (Piece.mk rfl rfl (.nil _) (fun _ h => h))
  refine o_assign rfl rfl ?_
  refine triL_nil ?_
  refine thenQ_normal ?_
  refine tri_ret ?_
  refine end1 rfl rfl ?_
  exact fun w1 hw1 => ⟨by simp, hw1.chg⟩

theorem valueBack (v : Val) (s : List UInt8) (w : World) (f : fit v) (hs : s.length ≤ 4294967280) (hL : LV w) (hE : LE w) : Calls Tryd.prog 11 #[aggV v, .string (B s)] w (Pure w (.bool true)) := by
  refine calls_tri (args := [aggV v, .string (B s)]) (lent := []) (H := []) Tryd.func11 rfl Tryd.ntmps11 rfl (Sat.start _ _ _ _) ?_
  refine (show Tri _ [(0, _), (1, _)] _ _ _ from ?_)
  have fr := fit_rd s
  have pl := pr_len f
  refine tri_seq ?_
  refine tri_region ?_
  refine o_box (Val.cs _) rfl rfl rfl (fun b2 => ?_)
  refine o_assign rfl rfl ?_
  refine triL_nil ?_
  refine thenQ_normal ?_
  refine tri_seq ?_
  refine tri_region ?_
  refine o_loadBV agg23 sz23 (by repeat (first | exact Nth.z | apply Nth.s)) rfl rfl ?_
  refine o_callP (first := []) (cap := []) rfl rfl rfl Tryd.call41 (fun w1 h1 => printK v w1 f (hL.chg h1.chg)) ?_
  refine o_move rfl rfl ?_
  refine o_extract rfl rfl rfl ?_
  refine o_extract rfl rfl rfl ?_
  refine o_assign rfl rfl ?_
  refine o_assign rfl rfl ?_
  refine triL_nil ?_
  refine thenQ_normal ?_
  refine tri_seq ?_
  refine tri_seq ?_
  refine tri_slots [(6, _), (5, _), (2, _), (1, _)] (.cons rfl (.cons rfl (.cons rfl (.cons rfl (.nil _))))) ?_
  refine tri_region ?_
  refine o_move rfl rfl ?_
  refine o_eqlI rfl rfl rfl ?_
  refine o_loadBV agg23 sz23 (by repeat (first | exact Nth.z | apply Nth.s)) rfl rfl ?_
  refine o_callP (first := []) (cap := []) rfl rfl rfl Tryd.call14 (fun w1 h1 => mayK v w1 f) ?_
  refine o_neqB rfl Tryd.underlying4 rfl rfl ?_
  refine triL_nil ?_
  refine thenQ_normal ?_
  refine tri_cond_false (congrArg (fun b : Bool => some (Value.bool b)) (by exact code_b v)) ?_
  refine tri_skip ?_
  refine thenQ_normal ?_
  refine tri_seq ?_
  refine tri_seq ?_
  refine tri_slots [(6, _), (5, _), (2, _), (1, _)] (.cons rfl (.cons rfl (.cons rfl (.cons rfl (.nil _))))) ?_
  refine tri_region ?_
  refine o_move rfl rfl ?_
  refine o_eqlI rfl rfl rfl ?_
  refine triL_nil ?_
  refine thenQ_normal ?_
  refine tri_if rfl (fun e0 => ?_) (fun e0 => ?_)
  · skip
    refine tri_seq ?_
    refine tri_region ?_
    refine o_move rfl rfl ?_
    refine o_callP (first := []) (cap := []) rfl rfl rfl Tryd.call43 (fun w1 h1 => readK (prV v).1 w1 (by omega) (hL.chg h1.chg) (hE.chg h1.chg)) ?_
    refine o_move rfl rfl ?_
    refine o_extract rfl rfl rfl ?_
    refine o_extract rfl rfl rfl ?_
    refine o_alloc (Val.cs Val.zero) rfl zero23 rfl (fun b7 => ?_)
    refine o_storeBV sz23 (by repeat (first | exact Nth.z | apply Nth.s)) rfl rfl rfl ?_
    refine o_assign rfl rfl ?_
    refine triL_nil ?_
    refine thenQ_normal ?_
    refine tri_seq ?_
    refine tri_slots [(8, _), (7, _), (2, _), (1, _)] (.cons rfl (.cons rfl (.cons rfl (.cons rfl (.nil _))))) ?_
    refine tri_region ?_
    refine o_move rfl rfl ?_
    refine o_neqI rfl rfl rfl ?_
    refine o_move rfl rfl ?_
    refine' triL_or [_, _, _] [(1, _)] (dj := 32) (dr := 35) rfl rfl (fun g1 => ?_) ⟨_, rfl, rfl, rfl, (.cons rfl (.nil _))⟩ rfl ?_
    rotate_left
    · skip
      refine o_loadBV agg23 sz23 (by repeat (first | exact Nth.z | apply Nth.s)) rfl rfl ?_
      refine o_loadBV agg23 sz23 (by repeat (first | exact Nth.z | apply Nth.s)) rfl rfl ?_
      refine o_neqV flat23 rfl rfl rfl ?_
      exact triL_nil (Piece.mk rfl rfl (.cons rfl (.nil _)) (fun _ h => h))
    refine triL_nil ?_
    refine thenQ_normal ?_
    refine tri_cond_false (congrArg (fun b : Bool => some (Value.bool b)) (by exact back_b f e0)) ?_
    refine tri_skip ?_
    refine thenQ_normal ?_
    refine tri_seq ?_
    refine tri_region ?_
    refine o_move rfl rfl ?_
    refine o_callP (first := []) (cap := []) rfl rfl rfl Tryd.call43 (fun w1 h1 => readK s w1 hs (hL.chg h1.chg) (hE.chg h1.chg)) ?_
    refine o_move rfl rfl ?_
    refine o_extract rfl rfl rfl ?_
    refine o_extract rfl rfl rfl ?_
    refine o_alloc (Val.cs Val.zero) rfl zero23 rfl (fun b9 => ?_)
    refine o_storeBV sz23 (by repeat (first | exact Nth.z | apply Nth.s)) rfl rfl rfl ?_
    refine o_assign rfl rfl ?_
    refine triL_nil ?_
    refine thenQ_normal ?_
    refine tri_seq ?_
    refine tri_seq ?_
    refine tri_slots [(10, _), (9, _), (1, _)] (.cons rfl (.cons rfl (.cons rfl (.nil _)))) ?_
    refine tri_region ?_
    refine o_move rfl rfl ?_
    refine o_eqlI rfl rfl rfl ?_
    refine triL_nil ?_
    refine thenQ_normal ?_
    refine tri_if rfl (fun r0 => ?_) (fun r0 => ?_)
    · skip
      refine tri_seq ?_
      refine tri_region ?_
      refine o_loadBV agg23 sz23 (by repeat (first | exact Nth.z | apply Nth.s)) rfl rfl ?_
      refine o_callP (first := []) (cap := []) rfl rfl rfl Tryd.call41 (fun w1 h1 => printK (rdV s).1 w1 fr (hL.chg h1.chg)) ?_
      refine o_move rfl rfl ?_
      refine o_extract rfl rfl rfl ?_
      refine o_extract rfl rfl rfl ?_
      refine o_assign rfl rfl ?_
      refine o_assign rfl rfl ?_
      refine triL_nil ?_
      refine thenQ_normal ?_
      refine tri_seq ?_
      refine tri_slots [(12, _), (11, _), (1, _)] (.cons rfl (.cons rfl (.cons rfl (.nil _)))) ?_
      refine tri_region ?_
      refine o_move rfl rfl ?_
      refine o_neqI rfl rfl rfl ?_
      refine o_move rfl rfl ?_
      refine' triL_or [_, _, _] [] (dj := 51) (dr := 54) rfl rfl (fun g2 => ?_) ⟨_, rfl, rfl, rfl, (.nil _)⟩ rfl ?_
      rotate_left
      · skip
        refine o_move rfl rfl ?_
        refine o_move rfl rfl ?_
        refine o_neqT rfl rfl rfl ?_
        exact triL_nil (Piece.mk rfl rfl (.nil _) (fun _ h => h))
      refine triL_nil ?_
      refine thenQ_normal ?_
      refine tri_cond_false (congrArg (fun b : Bool => some (Value.bool b)) (by exact forth_b r0)) ?_
      refine tri_skip ?_
      refine thenQ_normal ?_
      refine tri_seq ?_
      refine tri_region ?_
      refine o_callP (first := []) (cap := []) rfl rfl rfl Tryd.call16 (fun w_ hw_ => awakeK w_ (hL.chg hw_.chg)) ?_
      refine o_assign rfl rfl ?_
      refine triL_nil ?_
      refine thenQ_normal ?_
      refine tri_ret ?_
      refine end1 rfl rfl ?_
      exact fin_pure
    · skip
      refine tri_skip ?_
      refine thenQ_normal ?_
      refine tri_seq ?_
      refine tri_slots [] (.nil _) ?_
      refine tri_region ?_
      refine o_callP (first := []) (cap := []) rfl rfl rfl Tryd.call16 (fun w_ hw_ => awakeK w_ (hL.chg hw_.chg)) ?_
      refine o_assign rfl rfl ?_
      refine triL_nil ?_
      refine thenQ_normal ?_
      refine tri_ret ?_
      refine end1 rfl rfl ?_
      exact fin_pure
  · skip
    refine tri_skip ?_
    refine thenQ_normal ?_
    refine tri_seq ?_
    refine tri_slots [(1, _)] (.cons rfl (.nil _)) ?_
    refine tri_region ?_
    refine o_move rfl rfl ?_
    refine o_callP (first := []) (cap := []) rfl rfl rfl Tryd.call43 (fun w1 h1 => readK s w1 hs (hL.chg h1.chg) (hE.chg h1.chg)) ?_
    refine o_move rfl rfl ?_
    refine o_extract rfl rfl rfl ?_
    refine o_extract rfl rfl rfl ?_
    refine o_alloc (Val.cs Val.zero) rfl zero23 rfl (fun b9 => ?_)
    refine o_storeBV sz23 (by repeat (first | exact Nth.z | apply Nth.s)) rfl rfl rfl ?_
    refine o_assign rfl rfl ?_
    refine triL_nil ?_
    refine thenQ_normal ?_
    refine tri_seq ?_
    refine tri_seq ?_
    refine tri_slots [(10, _), (9, _), (1, _)] (.cons rfl (.cons rfl (.cons rfl (.nil _)))) ?_
    refine tri_region ?_
    refine o_move rfl rfl ?_
    refine o_eqlI rfl rfl rfl ?_
    refine triL_nil ?_
    refine thenQ_normal ?_
    refine tri_if rfl (fun r0 => ?_) (fun r0 => ?_)
    · skip
      refine tri_seq ?_
      refine tri_region ?_
      refine o_loadBV agg23 sz23 (by repeat (first | exact Nth.z | apply Nth.s)) rfl rfl ?_
      refine o_callP (first := []) (cap := []) rfl rfl rfl Tryd.call41 (fun w1 h1 => printK (rdV s).1 w1 fr (hL.chg h1.chg)) ?_
      refine o_move rfl rfl ?_
      refine o_extract rfl rfl rfl ?_
      refine o_extract rfl rfl rfl ?_
      refine o_assign rfl rfl ?_
      refine o_assign rfl rfl ?_
      refine triL_nil ?_
      refine thenQ_normal ?_
      refine tri_seq ?_
      refine tri_slots [(12, _), (11, _), (1, _)] (.cons rfl (.cons rfl (.cons rfl (.nil _)))) ?_
      refine tri_region ?_
      refine o_move rfl rfl ?_
      refine o_neqI rfl rfl rfl ?_
      refine o_move rfl rfl ?_
      refine' triL_or [_, _, _] [] (dj := 51) (dr := 54) rfl rfl (fun g3 => ?_) ⟨_, rfl, rfl, rfl, (.nil _)⟩ rfl ?_
      rotate_left
      · skip
        refine o_move rfl rfl ?_
        refine o_move rfl rfl ?_
        refine o_neqT rfl rfl rfl ?_
        exact triL_nil (Piece.mk rfl rfl (.nil _) (fun _ h => h))
      refine triL_nil ?_
      refine thenQ_normal ?_
      refine tri_cond_false (congrArg (fun b : Bool => some (Value.bool b)) (by exact forth_b r0)) ?_
      refine tri_skip ?_
      refine thenQ_normal ?_
      refine tri_seq ?_
      refine tri_region ?_
      refine o_callP (first := []) (cap := []) rfl rfl rfl Tryd.call16 (fun w_ hw_ => awakeK w_ (hL.chg hw_.chg)) ?_
      refine o_assign rfl rfl ?_
      refine triL_nil ?_
      refine thenQ_normal ?_
      refine tri_ret ?_
      refine end1 rfl rfl ?_
      exact fin_pure
    · skip
      refine tri_skip ?_
      refine thenQ_normal ?_
      refine tri_seq ?_
      refine tri_slots [] (.nil _) ?_
      refine tri_region ?_
      refine o_callP (first := []) (cap := []) rfl rfl rfl Tryd.call16 (fun w_ hw_ => awakeK w_ (hL.chg hw_.chg)) ?_
      refine o_assign rfl rfl ?_
      refine triL_nil ?_
      refine thenQ_normal ?_
      refine tri_ret ?_
      refine end1 rfl rfl ?_
      exact fin_pure

end Go.Proofs.YtgogkkkacpacgaaDoor
