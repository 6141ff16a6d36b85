/- the document's token, walked -/
import Derived.Test.YtdcdpegomncomaaGreatDoorWalks6
namespace Go.Proofs.YtdcdpegomncomaaGreatDoor
open Go.WK Go.RowKit 

theorem bval35  : Tryz.prog.built 35 [] = some (Tok.cs ⟨0, [], 0⟩).toArray := by kernel_rfl
theorem zs9 : (Tryz.prog.info? 9).map (fun i => (i.zero, i.size)) = some (some (.string .empty), 1) := by kernel_rfl

theorem oneR (s : List UInt8) (w : World) (hs : s.length ≤ 140737488351232) (h0 : 0 < s.length) : Calls Tryz.prog 21 #[.string (B s)] w (Pure w (.tuple #[aggT ⟨(one s).k, (one s).t, 0⟩, .int .i64 ((one s).n : Int), .int .i64 (one s).e])) := by
  refine calls_tri (args := [.string (B s)]) (lent := []) (H := []) Tryz.func21 rfl Tryz.ntmps21 rfl (Sat.start _ _ _ _) ?_
  refine (show Tri _ [(0, _)] _ _ _ from ?_)
  refine tri_seq ?_
  refine tri_region ?_
  refine o_alloc (Tok.cs Tok.zero) rfl zero35 rfl (fun b2 => ?_)
  refine o_assign rfl rfl ?_
  refine o_assign rfl rfl ?_
  refine triL_nil ?_
  refine thenQ_normal ?_
  refine tri_seq ?_
  refine tri_region ?_
  refine o_assign rfl rfl ?_
  refine triL_nil ?_
  refine thenQ_normal ?_
  refine tri_seq ?_
  refine tri_seq ?_
  refine tri_region ?_
  refine o_move rfl rfl ?_
  refine o_idxB Tryz.underlying9 rfl rfl rfl (by omega) (by omega) ?_
  refine o_callP (first := []) (cap := []) rfl rfl rfl Tryz.call34 (fun w_ hw_ => letterR _ w_) ?_
  refine triL_nil ?_
  refine thenQ_normal ?_
  refine tri_cond rfl (fun c1 => ?_) (fun c1 => ?_)
  · skip
    have c1 : isLet (s.getD 0 0) = true := c1
    refine tri_seq ?_
    refine tri_block ?_
    refine tri_loop (ι := Nat) (F := fun i => [(0, .string (B s)), (2, .pointer (some ⟨b2, 0, none⟩)), (5, .int .i64 (i : Int))]) (HH := fun i => [box b2 35 Tok.zero.cs]) (Pu := fun i => i ≤ s.length ∧ runL isWd s = i + runL isWd (s.drop i)) (μ := fun i => s.length - i) (0) (.cons rfl (.cons rfl (.cons rfl (.nil _)))) (fun _ h => h) (⟨by omega, by simp⟩) (fun i hi => ?_)
    refine tri_seq ?_
    refine tri_seq ?_
    refine tri_region ?_
    refine o_move rfl rfl ?_
    refine o_move rfl rfl ?_
    refine o_lenB Tryz.underlying9 rfl rfl ?_
    refine o_lss rfl rfl rfl ?_
    refine o_move rfl rfl ?_
    refine' triL_and [_, _, _, _, _, _, _, _, _, _] [(0, _), (2, _), (5, _)] (dj := 18) (dr := 28) rfl rfl (fun g1 => ?_) ⟨_, rfl, rfl, rfl, (.cons rfl (.cons rfl (.cons rfl (.nil _))))⟩ rfl ?_
    rotate_left
    · skip
      have g1 := of_decide_eq_true g1
      refine o_move rfl rfl ?_
      refine o_move rfl rfl ?_
      refine o_idxB Tryz.underlying9 rfl rfl rfl (by omega) (by omega) ?_
      refine o_callP (first := []) (cap := []) rfl rfl rfl Tryz.call34 (fun w_ hw_ => letterR _ w_) ?_
      refine o_move rfl rfl ?_
      refine' triL_or [_, _, _, _] [(18, _), (0, _), (2, _), (5, _)] (dj := 23) (dr := 27) rfl rfl (fun g2 => ?_) ⟨_, rfl, rfl, rfl, (.cons rfl (.cons rfl (.cons rfl (.cons rfl (.nil _)))))⟩ rfl ?_
      rotate_left
      · skip
        refine o_move rfl rfl ?_
        refine o_move rfl rfl ?_
        refine o_idxB Tryz.underlying9 rfl rfl rfl (by omega) (by omega) ?_
        refine o_callP (first := []) (cap := []) rfl rfl rfl Tryz.call35 (fun w_ hw_ => digitR _ w_) ?_
        exact triL_nil (Piece.mk rfl rfl (.cons rfl (.cons rfl (.cons rfl (.cons rfl (.nil _))))) (fun _ h => h))
      exact triL_nil (Piece.mk rfl rfl (.cons rfl (.cons rfl (.cons rfl (.nil _)))) (fun _ h => h))
    refine triL_nil ?_
    refine thenQ_normal ?_
    refine tri_cond rfl (fun h1 => ?_) (fun h1 => ?_)
    · skip
      have h1 : i < s.length ∧ isWd (s.getD i 0) = true := by rw [Bool.and_eq_true, decide_eq_true_eq] at h1; exact ⟨by have := h1.1; omega, h1.2⟩
      refine tri_skip ?_
      refine thenQ_normal ?_
      refine tri_block ?_
      refine tri_region ?_
      refine o_move rfl rfl ?_
      refine o_addN rfl rfl rfl (by omega) ?_
      refine o_assign rfl rfl ?_
      refine triL_nil ?_
      refine blockQ_normal ?_
      refine thenQ_normal ?_
      have e := run_step isWd s i h1.1
      rw [if_pos h1.2] at e
      exact ⟨i + 1, (.cons rfl (.cons rfl (.cons rfl (.nil _)))), fun _ h => h, ⟨by omega, by omega⟩, by omega⟩
    · skip
      have h1 : ¬ (i < s.length ∧ isWd (s.getD i 0) = true) := fun e => Bool.eq_false_iff.1 h1 (by rw [Bool.and_eq_true, decide_eq_true_eq]; exact ⟨by have := e.1; omega, e.2⟩)
      have hrun : runL isWd s = i := by have := run_last isWd s i h1; omega
      refine tri_exit ?_
      refine thenQ_exit ?_
      refine thenQ_exit ?_
      refine blockQ_here ?_
      refine thenQ_normal ?_
      refine tri_seq ?_
      refine tri_region ?_
      refine o_move rfl rfl ?_
      refine o_move rfl rfl ?_
      refine o_sliceBh Tryz.underlying9 rfl rfl rfl (by omega) (by omega) ?_
      refine o_callP (first := []) (cap := []) rfl rfl rfl Tryz.call36 (fun w1 h1 => smallR (s.take i) w1 (by rw [List.length_take]; omega)) ?_
      refine o_build (bval35_0_1 _ _) rfl rfl ?_
      refine o_move rfl rfl ?_
      refine o_storeBTk sz35 (by first | exact Nth.z | exact .s .z | exact .s (.s .z) | exact .s (.s (.s .z)) | exact .s (.s (.s (.s .z)))) rfl rfl rfl ?_
      refine o_assign rfl rfl ?_
      refine o_assign rfl rfl ?_
      refine triL_nil ?_
      refine thenQ_normal ?_
      refine tri_ret ?_
      refine thenQ_ret ?_
      refine endC3 rfl agg35 sz35 (by first | exact Nth.z | exact .s .z | exact .s (.s .z) | exact .s (.s (.s .z)) | exact .s (.s (.s (.s .z)))) rfl rfl rfl rfl ?_
      have e : one s = ⟨1, small (s.take i), i, 0⟩ := (by rw [one_word c1, hrun])
      exact fun w1 hw1 => ⟨by rw [e] <;> rfl, hw1.chg⟩
  · skip
    have c1 : isLet (s.getD 0 0) = false := c1
    refine tri_skip ?_
    refine thenQ_normal ?_
    refine tri_seq ?_
    refine tri_seq ?_
    refine tri_slots [(5, _), (2, _), (0, _)] (.cons rfl (.cons rfl (.cons rfl (.nil _)))) ?_
    refine tri_region ?_
    refine o_move rfl rfl ?_
    refine o_idxB Tryz.underlying9 rfl rfl rfl (by omega) (by omega) ?_
    refine o_callP (first := []) (cap := []) rfl rfl rfl Tryz.call35 (fun w_ hw_ => digitR _ w_) ?_
    refine triL_nil ?_
    refine thenQ_normal ?_
    refine tri_cond rfl (fun c2 => ?_) (fun c2 => ?_)
    · skip
      have c2 : isDig (s.getD 0 0) = true := c2
      refine tri_seq ?_
      refine tri_block ?_
      refine tri_loop (ι := Nat) (F := fun i => [(0, .string (B s)), (2, .pointer (some ⟨b2, 0, none⟩)), (5, .int .i64 (i : Int))]) (HH := fun i => [box b2 35 Tok.zero.cs]) (Pu := fun i => i ≤ s.length ∧ runL isDig s = i + runL isDig (s.drop i)) (μ := fun i => s.length - i) (0) (.cons rfl (.cons rfl (.cons rfl (.nil _)))) (fun _ h => h) (⟨by omega, by simp⟩) (fun i hi => ?_)
      refine tri_seq ?_
      refine tri_seq ?_
      refine tri_region ?_
      refine o_move rfl rfl ?_
      refine o_move rfl rfl ?_
      refine o_lenB Tryz.underlying9 rfl rfl ?_
      refine o_lss rfl rfl rfl ?_
      refine o_move rfl rfl ?_
      refine' triL_and [_, _, _, _] [(0, _), (2, _), (5, _)] (dj := 45) (dr := 49) rfl rfl (fun g3 => ?_) ⟨_, rfl, rfl, rfl, (.cons rfl (.cons rfl (.cons rfl (.nil _))))⟩ rfl ?_
      rotate_left
      · skip
        have g3 := of_decide_eq_true g3
        refine o_move rfl rfl ?_
        refine o_move rfl rfl ?_
        refine o_idxB Tryz.underlying9 rfl rfl rfl (by omega) (by omega) ?_
        refine o_callP (first := []) (cap := []) rfl rfl rfl Tryz.call35 (fun w_ hw_ => digitR _ w_) ?_
        exact triL_nil (Piece.mk rfl rfl (.cons rfl (.cons rfl (.cons rfl (.nil _)))) (fun _ h => h))
      refine triL_nil ?_
      refine thenQ_normal ?_
      refine tri_cond rfl (fun h1 => ?_) (fun h1 => ?_)
      · skip
        have h1 : i < s.length ∧ isDig (s.getD i 0) = true := by rw [Bool.and_eq_true, decide_eq_true_eq] at h1; exact ⟨by have := h1.1; omega, h1.2⟩
        refine tri_skip ?_
        refine thenQ_normal ?_
        refine tri_block ?_
        refine tri_region ?_
        refine o_move rfl rfl ?_
        refine o_addN rfl rfl rfl (by omega) ?_
        refine o_assign rfl rfl ?_
        refine triL_nil ?_
        refine blockQ_normal ?_
        refine thenQ_normal ?_
        have e := run_step isDig s i h1.1
        rw [if_pos h1.2] at e
        exact ⟨i + 1, (.cons rfl (.cons rfl (.cons rfl (.nil _)))), fun _ h => h, ⟨by omega, by omega⟩, by omega⟩
      · skip
        have h1 : ¬ (i < s.length ∧ isDig (s.getD i 0) = true) := fun e => Bool.eq_false_iff.1 h1 (by rw [Bool.and_eq_true, decide_eq_true_eq]; exact ⟨by have := e.1; omega, e.2⟩)
        have hrun : runL isDig s = i := by have := run_last isDig s i h1; omega
        refine tri_exit ?_
        refine thenQ_exit ?_
        refine thenQ_exit ?_
        refine blockQ_here ?_
        refine thenQ_normal ?_
        refine tri_seq ?_
        refine tri_seq ?_
        refine tri_region ?_
        refine o_move rfl rfl ?_
        refine o_gtr rfl rfl rfl ?_
        refine o_move rfl rfl ?_
        refine' triL_and [_, _, _] [(0, _), (2, _), (5, _)] (dj := 55) (dr := 58) rfl rfl (fun g4 => ?_) ⟨_, rfl, rfl, rfl, (.cons rfl (.cons rfl (.cons rfl (.nil _))))⟩ rfl ?_
        rotate_left
        · skip
          refine o_move rfl rfl ?_
          refine o_idxB Tryz.underlying9 rfl rfl rfl (by omega) (by omega) ?_
          refine o_eqlU8 _ 48 rfl rfl rfl ?_
          exact triL_nil (Piece.mk rfl rfl (.cons rfl (.cons rfl (.cons rfl (.nil _)))) (fun _ h => h))
        refine o_move rfl rfl ?_
        refine' triL_or [_, _, _, _, _] [(0, _), (2, _), (5, _)] (dj := 60) (dr := 65) rfl rfl (fun g5 => ?_) ⟨_, rfl, rfl, rfl, (.cons rfl (.cons rfl (.cons rfl (.nil _))))⟩ rfl ?_
        rotate_left
        · skip
          refine o_move rfl rfl ?_
          refine o_move rfl rfl ?_
          refine o_sliceBh Tryz.underlying9 rfl rfl rfl (by omega) (by omega) ?_
          refine o_callP (first := []) (cap := []) rfl rfl rfl Tryz.call37 (fun w1 h1 => mostR (s.take i) w1 (by rw [List.length_take]; omega)) ?_
          refine o_not rfl rfl ?_
          exact triL_nil (Piece.mk rfl rfl (.cons rfl (.cons rfl (.cons rfl (.nil _)))) (fun _ h => h))
        refine o_move rfl rfl ?_
        refine' triL_or [_, _, _, _, _, _, _, _, _, _] [(0, _), (2, _), (5, _)] (dj := 67) (dr := 77) rfl rfl (fun g6 => ?_) ⟨_, rfl, rfl, rfl, (.cons rfl (.cons rfl (.cons rfl (.nil _))))⟩ rfl ?_
        rotate_left
        · skip
          refine o_move rfl rfl ?_
          refine o_move rfl rfl ?_
          refine o_lenB Tryz.underlying9 rfl rfl ?_
          refine o_lss rfl rfl rfl ?_
          refine o_move rfl rfl ?_
          refine' triL_and [_, _, _, _] [(67, _), (0, _), (2, _), (5, _)] (dj := 72) (dr := 76) rfl rfl (fun g7 => ?_) ⟨_, rfl, rfl, rfl, (.cons rfl (.cons rfl (.cons rfl (.cons rfl (.nil _)))))⟩ rfl ?_
          rotate_left
          · skip
            have g7 := of_decide_eq_true g7
            refine o_move rfl rfl ?_
            refine o_move rfl rfl ?_
            refine o_idxB Tryz.underlying9 rfl rfl rfl (by omega) (by omega) ?_
            refine o_callP (first := []) (cap := []) rfl rfl rfl Tryz.call34 (fun w_ hw_ => letterR _ w_) ?_
            exact triL_nil (Piece.mk rfl rfl (.cons rfl (.cons rfl (.cons rfl (.cons rfl (.nil _))))) (fun _ h => h))
          exact triL_nil (Piece.mk rfl rfl (.cons rfl (.cons rfl (.cons rfl (.nil _)))) (fun _ h => h))
        refine triL_nil ?_
        refine thenQ_normal ?_
        refine tri_cond rfl (fun hb => ?_) (fun hb => ?_)
        · skip
          have hb : numBad s i := numBad_yes hb
          refine tri_seq ?_
          refine tri_region ?_
          refine o_build bval35 rfl rfl ?_
          refine o_storeBTk sz35 (by first | exact Nth.z | exact .s .z | exact .s (.s .z) | exact .s (.s (.s .z)) | exact .s (.s (.s (.s .z)))) rfl rfl rfl ?_
          refine o_assign rfl rfl ?_
          refine o_assign rfl rfl ?_
          refine triL_nil ?_
          refine thenQ_normal ?_
          refine tri_ret ?_
          refine thenQ_ret ?_
          refine thenQ_ret ?_
          refine endC3 rfl agg35 sz35 (by first | exact Nth.z | exact .s .z | exact .s (.s .z) | exact .s (.s (.s .z)) | exact .s (.s (.s (.s .z)))) rfl rfl rfl rfl ?_
          have e : one s = ⟨0, [], 0, 180⟩ := (by rw [one_num c1 c2, hrun, if_pos hb])
          exact fun w1 hw1 => ⟨by rw [e] <;> rfl, hw1.chg⟩
        · skip
          have hb : ¬ numBad s i := numBad_not hb
          refine tri_skip ?_
          refine thenQ_normal ?_
          refine tri_seq ?_
          refine tri_region ?_
          refine o_move rfl rfl ?_
          refine o_move rfl rfl ?_
          refine o_sliceBh Tryz.underlying9 rfl rfl rfl (by omega) (by omega) ?_
          refine o_build (bval35_0_1 _ _) rfl rfl ?_
          refine o_move rfl rfl ?_
          refine o_storeBTk sz35 (by first | exact Nth.z | exact .s .z | exact .s (.s .z) | exact .s (.s (.s .z)) | exact .s (.s (.s (.s .z)))) rfl rfl rfl ?_
          refine o_assign rfl rfl ?_
          refine o_assign rfl rfl ?_
          refine triL_nil ?_
          refine thenQ_normal ?_
          refine tri_ret ?_
          refine thenQ_ret ?_
          refine endC3 rfl agg35 sz35 (by first | exact Nth.z | exact .s .z | exact .s (.s .z) | exact .s (.s (.s .z)) | exact .s (.s (.s (.s .z)))) rfl rfl rfl rfl ?_
          have e : one s = ⟨2, s.take i, i, 0⟩ := (by rw [one_num c1 c2, hrun, if_neg hb])
          exact fun w1 hw1 => ⟨by rw [e] <;> rfl, hw1.chg⟩
    · skip
      have c2 : isDig (s.getD 0 0) = false := c2
      refine tri_skip ?_
      refine thenQ_normal ?_
      refine tri_seq ?_
      refine tri_seq ?_
      refine tri_slots [(2, _), (0, _)] (.cons rfl (.cons rfl (.nil _))) ?_
      refine tri_region ?_
      refine o_move rfl rfl ?_
      refine o_idxB Tryz.underlying9 rfl rfl rfl (by omega) (by omega) ?_
      refine o_eqlU8 _ 39 rfl rfl rfl ?_
      refine triL_nil ?_
      refine thenQ_normal ?_
      refine tri_if rfl (fun c3 => ?_) (fun c3 => ?_)
      · skip
        have c3 : s.getD 0 0 = 39 := c3
        refine tri_seq ?_
        refine tri_region ?_
        refine o_move rfl rfl ?_
        refine o_callP (first := []) (cap := []) rfl rfl rfl Tryz.call38 (fun w1 h1 => textR s w1 (by omega) (by omega)) ?_
        refine o_move rfl rfl ?_
        refine o_extract rfl rfl rfl ?_
        refine o_extract rfl rfl rfl ?_
        refine o_assign rfl rfl ?_
        refine o_assign rfl rfl ?_
        refine triL_nil ?_
        refine thenQ_normal ?_
        refine tri_seq ?_
        refine tri_seq ?_
        refine tri_slots [(7, _), (6, _), (2, _)] (.cons rfl (.cons rfl (.cons rfl (.nil _)))) ?_
        refine tri_region ?_
        refine o_move rfl rfl ?_
        refine o_eqlI rfl rfl rfl ?_
        refine triL_nil ?_
        refine thenQ_normal ?_
        refine tri_if rfl (fun c4 => ?_) (fun c4 => ?_)
        · skip
          refine tri_seq ?_
          refine tri_slots [(2, _)] (.cons rfl (.nil _)) ?_
          refine tri_region ?_
          refine o_build bval35 rfl rfl ?_
          refine o_storeBTk sz35 (by first | exact Nth.z | exact .s .z | exact .s (.s .z) | exact .s (.s (.s .z)) | exact .s (.s (.s (.s .z)))) rfl rfl rfl ?_
          refine o_assign rfl rfl ?_
          refine o_assign rfl rfl ?_
          refine triL_nil ?_
          refine thenQ_normal ?_
          refine tri_ret ?_
          refine thenQ_ret ?_
          refine thenQ_ret ?_
          refine endC3 rfl agg35 sz35 (by first | exact Nth.z | exact .s .z | exact .s (.s .z) | exact .s (.s (.s .z)) | exact .s (.s (.s (.s .z)))) rfl rfl rfl rfl ?_
          have e : one s = ⟨0, [], 0, 180⟩ := (by rw [txt_one c3, if_pos (by omega)])
          exact fun w1 hw1 => ⟨by rw [e] <;> rfl, hw1.chg⟩
        · skip
          refine tri_skip ?_
          refine thenQ_normal ?_
          refine tri_seq ?_
          refine tri_seq ?_
          refine tri_region ?_
          refine o_move rfl rfl ?_
          refine o_lenB Tryz.underlying9 rfl rfl ?_
          refine o_gtr rfl rfl rfl ?_
          refine triL_nil ?_
          refine thenQ_normal ?_
          refine tri_if rfl (fun c5 => ?_) (fun c5 => ?_)
          · skip
            refine tri_seq ?_
            refine tri_slots [(2, _)] (.cons rfl (.nil _)) ?_
            refine tri_region ?_
            refine o_build bval35 rfl rfl ?_
            refine o_storeBTk sz35 (by first | exact Nth.z | exact .s .z | exact .s (.s .z) | exact .s (.s (.s .z)) | exact .s (.s (.s (.s .z)))) rfl rfl rfl ?_
            refine o_assign rfl rfl ?_
            refine o_assign rfl rfl ?_
            refine triL_nil ?_
            refine thenQ_normal ?_
            refine tri_ret ?_
            refine thenQ_ret ?_
            refine thenQ_ret ?_
            refine endC3 rfl agg35 sz35 (by first | exact Nth.z | exact .s .z | exact .s (.s .z) | exact .s (.s (.s .z)) | exact .s (.s (.s (.s .z)))) rfl rfl rfl rfl ?_
            have e : one s = ⟨0, [], 0, 3⟩ := (by rw [txt_one c3, if_neg (by omega), if_pos (by omega)])
            exact fun w1 hw1 => ⟨by rw [e] <;> rfl, hw1.chg⟩
          · skip
            refine tri_skip ?_
            refine thenQ_normal ?_
            refine tri_seq ?_
            refine tri_slots [(7, _), (6, _), (2, _)] (.cons rfl (.cons rfl (.cons rfl (.nil _)))) ?_
            refine tri_region ?_
            refine o_move rfl rfl ?_
            refine o_build (bval35_0_1 _ _) rfl rfl ?_
            refine o_move rfl rfl ?_
            refine o_storeBTk sz35 (by first | exact Nth.z | exact .s .z | exact .s (.s .z) | exact .s (.s (.s .z)) | exact .s (.s (.s (.s .z)))) rfl rfl rfl ?_
            refine o_assign rfl rfl ?_
            refine o_assign rfl rfl ?_
            refine triL_nil ?_
            refine thenQ_normal ?_
            refine tri_ret ?_
            refine thenQ_ret ?_
            refine endC3 rfl agg35 sz35 (by first | exact Nth.z | exact .s .z | exact .s (.s .z) | exact .s (.s (.s .z)) | exact .s (.s (.s (.s .z)))) rfl rfl rfl rfl ?_
            have e : one s = ⟨3, (txtR s).1, (txtR s).2, 0⟩ := (by rw [txt_one c3, if_neg (by omega), if_neg (by omega)])
            exact fun w1 hw1 => ⟨by rw [e] <;> rfl, hw1.chg⟩
      · skip
        have c3 : ¬ s.getD 0 0 = 39 := c3
        refine tri_skip ?_
        refine thenQ_normal ?_
        refine tri_seq ?_
        refine tri_region ?_
        refine o_lit (parts := [_, _, _, _, _, _, _, _, _, _, _, _, _, _, _, _, _]) (strsV sgs) Tryz.underlying71 zs9 rfl rfl rfl rfl (by decide) (by decide) (fun b103 => ?_)
        refine o_assign rfl rfl ?_
        refine triL_nil ?_
        refine thenQ_normal ?_
        refine tri_seq ?_
        refine tri_seq ?_
        refine tri_slots [(8, _), (2, _), (0, _)] (.cons rfl (.cons rfl (.cons rfl (.nil _)))) ?_
        refine tri_region ?_
        refine o_assign rfl rfl ?_
        refine triL_nil ?_
        refine thenQ_normal ?_
        refine tri_block ?_
        refine tri_loop (ι := Nat) (F := fun i => [(0, .string (B s)), (2, .pointer (some ⟨b2, 0, none⟩)), (8, .slice (some ⟨b103, 0, none⟩) 17 17), (9, .int .i64 (i : Int))]) (HH := fun i => [row (.slice (some ⟨b103, 0, none⟩) 17 17) 9 1 17 (strsV sgs), box b2 35 Tok.zero.cs]) (Pu := fun i => i ≤ 17 ∧ sgs.find? (hitB s) = (sgs.drop i).find? (hitB s)) (μ := fun i => 17 - i) (0) (.cons rfl (.cons rfl (.cons rfl (.cons rfl (.nil _))))) (fun _ h => h) (⟨by omega, rfl⟩) (fun i hi => ?_)
        refine tri_seq ?_
        refine tri_seq ?_
        refine tri_region ?_
        refine o_move rfl rfl ?_
        refine o_move rfl rfl ?_
        refine o_lenS Tryz.underlying71 rfl rfl ?_
        refine o_lss rfl rfl rfl ?_
        refine triL_nil ?_
        refine thenQ_normal ?_
        refine tri_if rfl (fun h8 => ?_) (fun h8 => ?_)
        · skip
          have hi5 : i < sgs.length := by rw [sgs_len]; omega
          have hsh := sgs_short i hi5
          refine tri_skip ?_
          refine thenQ_normal ?_
          refine tri_seq ?_
          refine tri_block ?_
          refine tri_seq ?_
          refine tri_slots [(0, _), (2, _), (8, _), (9, _)] (.cons rfl (.cons rfl (.cons rfl (.cons rfl (.nil _))))) ?_
          refine tri_region ?_
          refine o_move rfl rfl ?_
          refine o_move rfl rfl ?_
          refine o_idxS Tryz.underlying71 sz9 rfl rfl rfl (RdS.row .z) (by omega) (by omega) (by rw [strsV_length]; rfl) (by decide) ?_
          refine o_loadR agg9 rfl rfl (RdS.row .z) (strsV_get sgs i _ (by omega) hi5) ?_
          refine o_lenB Tryz.underlying9 rfl rfl ?_
          refine o_assign rfl rfl ?_
          refine triL_nil ?_
          refine thenQ_normal ?_
          refine tri_seq ?_
          refine tri_slots [(10, _), (0, _), (2, _), (8, _), (9, _)] (.cons rfl (.cons rfl (.cons rfl (.cons rfl (.cons rfl (.nil _)))))) ?_
          refine tri_quiet (by kernel_rfl) (by kernel_rfl) ?_
          refine o_move rfl rfl ?_
          refine o_lenB Tryz.underlying9 rfl rfl ?_
          refine o_move rfl rfl ?_
          refine o_geq rfl rfl rfl ?_
          refine o_move rfl rfl ?_
          refine' triL_and [_, _, _, _, _, _, _, _] [(10, _), (0, _), (2, _), (8, _), (9, _)] (dj := 119) (dr := 127) rfl rfl (fun g8 => ?_) ⟨_, rfl, rfl, rfl, (.cons rfl (.cons rfl (.cons rfl (.cons rfl (.cons rfl (.nil _))))))⟩ rfl ?_
          rotate_left
          · skip
            have g8 := of_decide_eq_true g8
            refine o_move rfl rfl ?_
            refine o_move rfl rfl ?_
            refine o_sliceBh Tryz.underlying9 rfl rfl rfl (by omega) (by omega) ?_
            refine o_move rfl rfl ?_
            refine o_move rfl rfl ?_
            refine o_idxS Tryz.underlying71 sz9 rfl rfl rfl (RdS.row .z) (by omega) (by omega) (by rw [strsV_length]; rfl) (by decide) ?_
            refine o_loadR agg9 rfl rfl (RdS.row .z) (strsV_get sgs i _ (by omega) hi5) ?_
            refine o_eqlT rfl rfl rfl ?_
            exact triL_nil (Piece.mk rfl rfl (.cons rfl (.cons rfl (.cons rfl (.cons rfl (.cons rfl (.nil _)))))) (fun _ h => h))
          refine triL_nil ?_
          refine thenQ_normal ?_
          refine tri_cond rfl (fun hh => ?_) (fun hh => ?_)
          · skip
            have hh : hitB s (sgs.getD i []) = true := (hit_int _ _).symm.trans hh
            refine tri_seq ?_
            refine tri_region ?_
            refine o_move rfl rfl ?_
            refine o_move rfl rfl ?_
            refine o_idxS Tryz.underlying71 sz9 rfl rfl rfl (RdS.row .z) (by omega) (by omega) (by rw [strsV_length]; rfl) (by decide) ?_
            refine o_loadR agg9 rfl rfl (RdS.row .z) (strsV_get sgs i _ (by omega) hi5) ?_
            refine o_build (bval35_0_1 _ _) rfl rfl ?_
            refine o_move rfl rfl ?_
            refine o_storeBTk sz35 (by first | exact Nth.z | exact .s .z | exact .s (.s .z) | exact .s (.s (.s .z)) | exact .s (.s (.s (.s .z)))) rfl rfl rfl ?_
            refine o_assign rfl rfl ?_
            refine o_assign rfl rfl ?_
            refine triL_nil ?_
            refine thenQ_normal ?_
            refine tri_ret ?_
            refine blockQ_ret ?_
            refine thenQ_ret ?_
            refine thenQ_ret ?_
            refine blockQ_ret ?_
            refine thenQ_ret ?_
            refine endC3 rfl agg35 sz35 (by first | exact Nth.z | exact .s .z | exact .s (.s .z) | exact .s (.s (.s .z)) | exact .s (.s (.s (.s .z)))) rfl rfl rfl rfl ?_
            obtain ⟨q1, q2, q3⟩ := sgs_hit hi5 hi.2 hh
            have e : one s = ⟨4, sgs.getD i [], (sgs.getD i []).length, 0⟩ := (by rw [one_sign c1 c2 c3, if_neg q3, q2, q1])
            exact fun w1 hw1 => ⟨by rw [e] <;> rfl, hw1.chg⟩
          · skip
            have hh : hitB s (sgs.getD i []) = false := (hit_int _ _).symm.trans hh
            refine tri_skip ?_
            refine blockQ_normal ?_
            refine thenQ_normal ?_
            refine tri_region ?_
            refine o_move rfl rfl ?_
            refine o_addN rfl rfl rfl (by omega) ?_
            refine o_assign rfl rfl ?_
            refine triL_nil ?_
            refine thenQ_normal ?_
            exact ⟨i + 1, (.cons rfl (.cons rfl (.cons rfl (.cons rfl (.nil _))))), fun _ h => h, ⟨by omega, sgs_step hi5 hi.2 hh⟩, by omega⟩
        · skip
          refine tri_exit ?_
          refine thenQ_exit ?_
          refine thenQ_exit ?_
          refine blockQ_here ?_
          refine thenQ_normal ?_
          refine tri_seq ?_
          refine tri_slots [(2, _)] (.cons rfl (.nil _)) ?_
          refine tri_region ?_
          refine o_build bval35 rfl rfl ?_
          refine o_storeBTk sz35 (by first | exact Nth.z | exact .s .z | exact .s (.s .z) | exact .s (.s (.s .z)) | exact .s (.s (.s (.s .z)))) rfl rfl rfl ?_
          refine o_assign rfl rfl ?_
          refine o_assign rfl rfl ?_
          refine triL_nil ?_
          refine thenQ_normal ?_
          refine tri_ret ?_
          refine endC3 rfl agg35 sz35 (by first | exact Nth.z | exact .s .z | exact .s (.s .z) | exact .s (.s (.s .z)) | exact .s (.s (.s (.s .z)))) rfl rfl rfl rfl ?_
          have e : one s = ⟨0, [], 0, 180⟩ := (by rw [one_sign c1 c2 c3, if_pos (sgs_none (i := i) (by rw [sgs_len]; omega) hi.2)])
          exact fun w1 hw1 => ⟨by rw [e] <;> rfl, hw1.chg⟩

end Go.Proofs.YtdcdpegomncomaaGreatDoor
