/- the lexer's functions, walked: bytes, runs, signs -/
import Derived.Test.YtdcdpegomncomaaGreatDoorProg
import Derived.Test.YtdcdpegomncomaaGreatDoorLex3
import Derived.KernelRfl
namespace Go.Proofs.YtdcdpegomncomaaGreatDoor
open Go.WK Go.RowKit 



theorem letterK (z : Int) (w : World)  : Calls Tryz.prog 12 #[.int .u8 z] w (Pure w (.bool (isLetZ z))) := by
  refine calls_tri (args := [.int .u8 z]) (lent := []) (H := []) Tryz.func12 rfl Tryz.ntmps12 rfl (Sat.start _ _ _ _) ?_
  refine (show Tri _ [(0, _)] _ _ _ from ?_)
  refine tri_seq ?_
  refine tri_region ?_
  refine o_assign rfl rfl ?_
  refine triL_nil ?_
  refine thenQ_normal ?_
  refine tri_seq ?_
  refine tri_region ?_
  refine o_move rfl rfl ?_
  refine o_geq rfl rfl rfl ?_
  refine o_move rfl rfl ?_
  refine' triL_and [_, _] [(2, _), (0, _)] (dj := 5) (dr := 7) rfl rfl (fun g1 => ?_) ⟨_, rfl, rfl, rfl, (.cons rfl (.cons rfl (.nil _)))⟩ rfl ?_
  rotate_left
  · skip
    refine o_move rfl rfl ?_
    refine o_leq rfl rfl rfl ?_
    exact triL_nil (Piece.mk rfl rfl (.cons rfl (.cons rfl (.nil _))) (fun _ h => h))
  refine o_move rfl rfl ?_
  refine' triL_or [_, _, _, _, _, _] [(2, _), (0, _)] (dj := 9) (dr := 15) rfl rfl (fun g2 => ?_) ⟨_, rfl, rfl, rfl, (.cons rfl (.cons rfl (.nil _)))⟩ rfl ?_
  rotate_left
  · skip
    refine o_move rfl rfl ?_
    refine o_geq rfl rfl rfl ?_
    refine o_move rfl rfl ?_
    refine' triL_and [_, _] [(9, _), (2, _), (0, _)] (dj := 12) (dr := 14) rfl rfl (fun g3 => ?_) ⟨_, rfl, rfl, rfl, (.cons rfl (.cons rfl (.cons rfl (.nil _))))⟩ rfl ?_
    rotate_left
    · skip
      refine o_move rfl rfl ?_
      refine o_leq rfl rfl rfl ?_
      exact triL_nil (Piece.mk rfl rfl (.cons rfl (.cons rfl (.cons rfl (.nil _)))) (fun _ h => h))
    exact triL_nil (Piece.mk rfl rfl (.cons rfl (.cons rfl (.nil _))) (fun _ h => h))
  refine o_move rfl rfl ?_
  refine' triL_or [_, _] [(2, _)] (dj := 17) (dr := 19) rfl rfl (fun g4 => ?_) ⟨_, rfl, rfl, rfl, (.cons rfl (.nil _))⟩ rfl ?_
  rotate_left
  · skip
    refine o_move rfl rfl ?_
    refine o_eqlI rfl rfl rfl ?_
    exact triL_nil (Piece.mk rfl rfl (.cons rfl (.nil _)) (fun _ h => h))
  refine o_assign rfl rfl ?_
  refine triL_nil ?_
  refine thenQ_normal ?_
  refine tri_ret ?_
  refine end1 rfl rfl ?_
  exact fin_pure

theorem digitK (z : Int) (w : World)  : Calls Tryz.prog 15 #[.int .u8 z] w (Pure w (.bool (isDigZ z))) := by
  refine calls_tri (args := [.int .u8 z]) (lent := []) (H := []) Tryz.func15 rfl Tryz.ntmps15 rfl (Sat.start _ _ _ _) ?_
  refine (show Tri _ [(0, _)] _ _ _ from ?_)
  refine tri_seq ?_
  refine tri_region ?_
  refine o_assign rfl rfl ?_
  refine triL_nil ?_
  refine thenQ_normal ?_
  refine tri_seq ?_
  refine tri_region ?_
  refine o_move rfl rfl ?_
  refine o_geq rfl rfl rfl ?_
  refine o_move rfl rfl ?_
  refine' triL_and [_, _] [(2, _)] (dj := 5) (dr := 7) rfl rfl (fun g1 => ?_) ⟨_, rfl, rfl, rfl, (.cons rfl (.nil _))⟩ rfl ?_
  rotate_left
  · skip
    refine o_move rfl rfl ?_
    refine o_leq rfl rfl rfl ?_
    exact triL_nil (Piece.mk rfl rfl (.cons rfl (.nil _)) (fun _ h => h))
  refine o_assign rfl rfl ?_
  refine triL_nil ?_
  refine thenQ_normal ?_
  refine tri_ret ?_
  refine end1 rfl rfl ?_
  exact fin_pure

theorem letterR (z : Int) (w : World)  : Calls Tryz.prog 34 #[.int .u8 z] w (Pure w (.bool (isLetZ z))) := by
  refine calls_tri (args := [.int .u8 z]) (lent := []) (H := []) Tryz.func34 rfl Tryz.ntmps34 rfl (Sat.start _ _ _ _) ?_
  refine (show Tri _ [(0, _)] _ _ _ from ?_)
  refine tri_seq ?_
  refine tri_region ?_
  refine o_assign rfl rfl ?_
  refine triL_nil ?_
  refine thenQ_normal ?_
  refine tri_seq ?_
  refine tri_region ?_
  refine o_move rfl rfl ?_
  refine o_geq rfl rfl rfl ?_
  refine o_move rfl rfl ?_
  refine' triL_and [_, _] [(2, _), (0, _)] (dj := 5) (dr := 7) rfl rfl (fun g1 => ?_) ⟨_, rfl, rfl, rfl, (.cons rfl (.cons rfl (.nil _)))⟩ rfl ?_
  rotate_left
  · skip
    refine o_move rfl rfl ?_
    refine o_leq rfl rfl rfl ?_
    exact triL_nil (Piece.mk rfl rfl (.cons rfl (.cons rfl (.nil _))) (fun _ h => h))
  refine o_move rfl rfl ?_
  refine' triL_or [_, _, _, _, _, _] [(2, _), (0, _)] (dj := 9) (dr := 15) rfl rfl (fun g2 => ?_) ⟨_, rfl, rfl, rfl, (.cons rfl (.cons rfl (.nil _)))⟩ rfl ?_
  rotate_left
  · skip
    refine o_move rfl rfl ?_
    refine o_geq rfl rfl rfl ?_
    refine o_move rfl rfl ?_
    refine' triL_and [_, _] [(9, _), (2, _), (0, _)] (dj := 12) (dr := 14) rfl rfl (fun g3 => ?_) ⟨_, rfl, rfl, rfl, (.cons rfl (.cons rfl (.cons rfl (.nil _))))⟩ rfl ?_
    rotate_left
    · skip
      refine o_move rfl rfl ?_
      refine o_leq rfl rfl rfl ?_
      exact triL_nil (Piece.mk rfl rfl (.cons rfl (.cons rfl (.cons rfl (.nil _)))) (fun _ h => h))
    exact triL_nil (Piece.mk rfl rfl (.cons rfl (.cons rfl (.nil _))) (fun _ h => h))
  refine o_move rfl rfl ?_
  refine' triL_or [_, _] [(2, _)] (dj := 17) (dr := 19) rfl rfl (fun g4 => ?_) ⟨_, rfl, rfl, rfl, (.cons rfl (.nil _))⟩ rfl ?_
  rotate_left
  · skip
    refine o_move rfl rfl ?_
    refine o_eqlI rfl rfl rfl ?_
    exact triL_nil (Piece.mk rfl rfl (.cons rfl (.nil _)) (fun _ h => h))
  refine o_assign rfl rfl ?_
  refine triL_nil ?_
  refine thenQ_normal ?_
  refine tri_ret ?_
  refine end1 rfl rfl ?_
  exact fin_pure

theorem digitR (z : Int) (w : World)  : Calls Tryz.prog 35 #[.int .u8 z] w (Pure w (.bool (isDigZ z))) := by
  refine calls_tri (args := [.int .u8 z]) (lent := []) (H := []) Tryz.func35 rfl Tryz.ntmps35 rfl (Sat.start _ _ _ _) ?_
  refine (show Tri _ [(0, _)] _ _ _ from ?_)
  refine tri_seq ?_
  refine tri_region ?_
  refine o_assign rfl rfl ?_
  refine triL_nil ?_
  refine thenQ_normal ?_
  refine tri_seq ?_
  refine tri_region ?_
  refine o_move rfl rfl ?_
  refine o_geq rfl rfl rfl ?_
  refine o_move rfl rfl ?_
  refine' triL_and [_, _] [(2, _)] (dj := 5) (dr := 7) rfl rfl (fun g1 => ?_) ⟨_, rfl, rfl, rfl, (.cons rfl (.nil _))⟩ rfl ?_
  rotate_left
  · skip
    refine o_move rfl rfl ?_
    refine o_leq rfl rfl rfl ?_
    exact triL_nil (Piece.mk rfl rfl (.cons rfl (.nil _)) (fun _ h => h))
  refine o_assign rfl rfl ?_
  refine triL_nil ?_
  refine thenQ_normal ?_
  refine tri_ret ?_
  refine end1 rfl rfl ?_
  exact fin_pure

theorem wdK (z : Int) (w : World)  : Calls Tryz.prog 14 #[.int .u8 z] w (Pure w (.bool (isLetZ z || isDigZ z))) := by
  refine calls_tri (args := [.int .u8 z]) (lent := []) (H := []) Tryz.func14 rfl Tryz.ntmps14 rfl (Sat.start _ _ _ _) ?_
  refine (show Tri _ [(0, _)] _ _ _ from ?_)
  refine tri_seq ?_
  refine tri_region ?_
  refine o_assign rfl rfl ?_
  refine triL_nil ?_
  refine thenQ_normal ?_
  refine tri_seq ?_
  refine tri_region ?_
  refine o_move rfl rfl ?_
  refine o_callP (first := []) (cap := []) rfl rfl rfl Tryz.call12 (fun w_ hw_ => letterK _ w_) ?_
  refine o_move rfl rfl ?_
  refine' triL_or [_, _] [(2, _)] (dj := 5) (dr := 7) rfl rfl (fun g1 => ?_) ⟨_, rfl, rfl, rfl, (.cons rfl (.nil _))⟩ rfl ?_
  rotate_left
  · skip
    refine o_move rfl rfl ?_
    refine o_callP (first := []) (cap := []) rfl rfl rfl Tryz.call15 (fun w_ hw_ => digitK _ w_) ?_
    exact triL_nil (Piece.mk rfl rfl (.cons rfl (.nil _)) (fun _ h => h))
  refine o_assign rfl rfl ?_
  refine triL_nil ?_
  refine thenQ_normal ?_
  refine tri_ret ?_
  refine end1 rfl rfl ?_
  exact fin_pure

theorem runK (s : List UInt8) (q : Nat) (P : Int → Bool) (w : World) (hs : s.length ≤ 140737488355328) (hc : ∀ args w, (callFunc q args).run Tryz.prog w = .ok (.enter q args) w) (hq : ∀ z w, Calls Tryz.prog q #[.int .u8 z] w (Pure w (.bool (P z)))) : Calls Tryz.prog 13 #[.string (B s), .func (.func q) #[] #[]] w (Pure w (.int .i64 ((runL (fun c => P c.toNat) s : Nat) : Int))) := by
  refine calls_tri (args := [.string (B s), .func (.func q) #[] #[]]) (lent := []) (H := []) Tryz.func13 rfl Tryz.ntmps13 rfl (Sat.start _ _ _ _) ?_
  refine (show Tri _ [(0, _), (1, _)] _ _ _ from ?_)
  refine tri_seq ?_
  refine tri_region ?_
  refine o_assign rfl rfl ?_
  refine triL_nil ?_
  refine thenQ_normal ?_
  refine tri_seq ?_
  refine tri_region ?_
  refine o_assign rfl rfl ?_
  refine triL_nil ?_
  refine thenQ_normal ?_
  refine tri_seq ?_
  refine tri_block ?_
  refine tri_loop (ι := Nat) (F := fun i => [(0, .string (B s)), (1, .func (.func q) #[] #[]), (5, .int .i64 (i : Int))]) (HH := fun i => []) (Pu := fun i => i ≤ s.length ∧ runL (fun c => P c.toNat) s = i + runL (fun c => P c.toNat) (s.drop i)) (μ := fun i => s.length - i) (0) (.cons rfl (.cons rfl (.cons rfl (.nil _)))) (fun _ h => h) (⟨by omega, by simp⟩) (fun i hi => ?_)
  refine tri_seq ?_
  refine tri_seq ?_
  refine tri_region ?_
  refine o_move rfl rfl ?_
  refine o_move rfl rfl ?_
  refine o_lenB Tryz.underlying9 rfl rfl ?_
  refine o_lss rfl rfl rfl ?_
  refine o_move rfl rfl ?_
  refine' triL_and [_, _, _, _, _] [(0, _), (1, _), (5, _)] (dj := 10) (dr := 15) rfl rfl (fun g1 => ?_) ⟨_, rfl, rfl, rfl, (.cons rfl (.cons rfl (.cons rfl (.nil _))))⟩ rfl ?_
  rotate_left
  · skip
    have g1 := of_decide_eq_true g1
    refine o_move rfl rfl ?_
    refine o_move rfl rfl ?_
    refine o_move rfl rfl ?_
    refine o_idxB Tryz.underlying9 rfl rfl rfl (by omega) (by omega) ?_
    refine o_callP (first := []) (cap := []) rfl rfl rfl hc (fun w1 h1 => hq _ w1) ?_
    exact triL_nil (Piece.mk rfl rfl (.cons rfl (.cons rfl (.cons rfl (.nil _)))) (fun _ h => h))
  refine triL_nil ?_
  refine thenQ_normal ?_
  refine tri_cond rfl (fun h1 => ?_) (fun h1 => ?_)
  · skip
    simp only [Bool.and_eq_true, decide_eq_true_eq] at h1
    have h1 : i < s.length ∧ P ((s.getD i 0).toNat : Int) = true := ⟨by omega, h1.2⟩
    refine tri_skip ?_
    refine thenQ_normal ?_
    refine tri_block ?_
    refine tri_region ?_
    refine o_move rfl rfl ?_
    refine o_addN rfl rfl rfl (by omega) ?_
    refine o_assign rfl rfl ?_
    refine triL_nil ?_
    refine blockQ_normal ?_
    refine thenQ_normal ?_
    have e := run_step (fun c => P c.toNat) s i h1.1
    rw [if_pos h1.2] at e
    exact ⟨i + 1, (.cons rfl (.cons rfl (.cons rfl (.nil _)))), fun _ h => h, ⟨by omega, by omega⟩, by omega⟩
  · skip
    simp only [Bool.and_eq_false_iff, decide_eq_false_iff_not, Int.toNat_natCast] at h1
    have h1 : ¬ (i < s.length ∧ P ((s.getD i 0).toNat : Int) = true) := fun e => by
      rcases h1 with h1 | h1
      · omega
      · rw [e.2] at h1; cases h1
    refine tri_exit ?_
    refine thenQ_exit ?_
    refine thenQ_exit ?_
    refine blockQ_here ?_
    refine thenQ_normal ?_
    refine tri_seq ?_
    refine tri_region ?_
    refine o_move rfl rfl ?_
    refine o_assign rfl rfl ?_
    refine triL_nil ?_
    refine thenQ_normal ?_
    refine tri_ret ?_
    refine end1 rfl rfl ?_
    exact fun w1 hw1 => ⟨congrArg (fun b => Ending.returned (.int .i64 b)) (by have e := run_last (fun c => P c.toNat) s i h1; omega), hw1.chg⟩

theorem signK (c d : Int) (w : World)  : Calls Tryz.prog 19 #[.int .u8 c, .int .u8 d] w (Pure w (.int .i64 ((sgn c d : Nat) : Int))) := by
  refine calls_tri (args := [.int .u8 c, .int .u8 d]) (lent := []) (H := []) Tryz.func19 rfl Tryz.ntmps19 rfl (Sat.start _ _ _ _) ?_
  refine (show Tri _ [(0, _), (1, _)] _ _ _ from ?_)
  refine tri_seq ?_
  refine tri_region ?_
  refine o_assign rfl rfl ?_
  refine triL_nil ?_
  refine thenQ_normal ?_
  refine tri_seq ?_
  refine tri_seq ?_
  refine tri_region ?_
  refine o_move rfl rfl ?_
  refine triL_nil ?_
  refine thenQ_normal ?_
  refine tri_block ?_
  refine tri_seq ?_
  refine tri_block ?_
  refine tri_seq ?_
  refine tri_block ?_
  refine tri_seq ?_
  refine tri_block ?_
  refine tri_seq ?_
  refine tri_block ?_
  refine tri_seq ?_
  refine tri_seq ?_
  refine tri_seq ?_
  refine tri_region ?_
  refine o_eqlI rfl rfl rfl ?_
  refine o_assign rfl rfl ?_
  refine triL_nil ?_
  refine thenQ_normal ?_
  refine tri_if rfl (fun h0 => ?_) (fun h0 => ?_)
  · skip
    refine tri_exit ?_
    refine thenQ_exit ?_
    refine thenQ_exit ?_
    refine blockQ_here ?_
    refine thenQ_normal ?_
    refine tri_seq ?_
    refine tri_slots [(1, _)] (.cons rfl (.nil _)) ?_
    refine tri_region ?_
    refine o_move rfl rfl ?_
    refine o_eqlI rfl rfl rfl ?_
    refine triL_nil ?_
    refine thenQ_normal ?_
    refine tri_if rfl (fun h1 => ?_) (fun h1 => ?_)
    · skip
      refine tri_seq ?_
      refine tri_region ?_
      refine o_assign rfl rfl ?_
      refine triL_nil ?_
      refine thenQ_normal ?_
      refine tri_ret ?_
      refine blockQ_ret ?_
      refine thenQ_ret ?_
      refine blockQ_ret ?_
      refine thenQ_ret ?_
      refine blockQ_ret ?_
      refine thenQ_ret ?_
      refine blockQ_ret ?_
      refine thenQ_ret ?_
      refine end1 rfl rfl ?_
      exact fun w1 hw1 => ⟨congrArg (fun b => Ending.returned (.int .i64 b)) (by unfold sgn; (repeat' split) <;> first | rfl | omega), hw1.chg⟩
    · skip
      refine tri_skip ?_
      refine blockQ_normal ?_
      refine thenQ_normal ?_
      refine tri_seq ?_
      refine tri_region ?_
      refine o_move rfl rfl ?_
      refine o_eqlI rfl rfl rfl ?_
      refine triL_nil ?_
      refine thenQ_normal ?_
      refine tri_if rfl (fun h2 => ?_) (fun h2 => ?_)
      · skip
        refine tri_seq ?_
        refine tri_slots [] (.nil _) ?_
        refine tri_region ?_
        refine o_assign rfl rfl ?_
        refine triL_nil ?_
        refine thenQ_normal ?_
        refine tri_ret ?_
        refine blockQ_ret ?_
        refine thenQ_ret ?_
        refine blockQ_ret ?_
        refine thenQ_ret ?_
        refine blockQ_ret ?_
        refine thenQ_ret ?_
        refine end1 rfl rfl ?_
        exact fun w1 hw1 => ⟨congrArg (fun b => Ending.returned (.int .i64 b)) (by unfold sgn; (repeat' split) <;> first | rfl | omega), hw1.chg⟩
      · skip
        refine tri_skip ?_
        refine blockQ_normal ?_
        refine thenQ_normal ?_
        refine tri_seq ?_
        refine tri_seq ?_
        refine tri_slots [] (.nil _) ?_
        refine tri_region ?_
        refine o_assign rfl rfl ?_
        refine triL_nil ?_
        refine thenQ_normal ?_
        refine tri_ret ?_
        refine thenQ_ret ?_
        refine blockQ_ret ?_
        refine thenQ_ret ?_
        refine blockQ_ret ?_
        refine thenQ_ret ?_
        refine end1 rfl rfl ?_
        exact fun w1 hw1 => ⟨congrArg (fun b => Ending.returned (.int .i64 b)) (by unfold sgn; (repeat' split) <;> first | rfl | omega), hw1.chg⟩
  · skip
    refine tri_skip ?_
    refine thenQ_normal ?_
    refine tri_seq ?_
    refine tri_seq ?_
    refine tri_slots [(5, _), (1, _)] (.cons rfl (.cons rfl (.nil _))) ?_
    refine tri_region ?_
    refine o_eqlI rfl rfl rfl ?_
    refine o_assign rfl rfl ?_
    refine triL_nil ?_
    refine thenQ_normal ?_
    refine tri_if rfl (fun h1 => ?_) (fun h1 => ?_)
    · skip
      refine tri_exit ?_
      refine thenQ_exit ?_
      refine thenQ_exit ?_
      refine blockQ_other rfl ?_
      refine thenQ_exit ?_
      refine blockQ_here ?_
      refine thenQ_normal ?_
      refine tri_seq ?_
      refine tri_region ?_
      refine o_move rfl rfl ?_
      refine o_eqlI rfl rfl rfl ?_
      refine triL_nil ?_
      refine thenQ_normal ?_
      refine tri_if rfl (fun h3 => ?_) (fun h3 => ?_)
      · skip
        refine tri_seq ?_
        refine tri_slots [] (.nil _) ?_
        refine tri_region ?_
        refine o_assign rfl rfl ?_
        refine triL_nil ?_
        refine thenQ_normal ?_
        refine tri_ret ?_
        refine blockQ_ret ?_
        refine thenQ_ret ?_
        refine blockQ_ret ?_
        refine thenQ_ret ?_
        refine blockQ_ret ?_
        refine thenQ_ret ?_
        refine end1 rfl rfl ?_
        exact fun w1 hw1 => ⟨congrArg (fun b => Ending.returned (.int .i64 b)) (by unfold sgn; (repeat' split) <;> first | rfl | omega), hw1.chg⟩
      · skip
        refine tri_skip ?_
        refine blockQ_normal ?_
        refine thenQ_normal ?_
        refine tri_seq ?_
        refine tri_seq ?_
        refine tri_slots [] (.nil _) ?_
        refine tri_region ?_
        refine o_assign rfl rfl ?_
        refine triL_nil ?_
        refine thenQ_normal ?_
        refine tri_ret ?_
        refine thenQ_ret ?_
        refine blockQ_ret ?_
        refine thenQ_ret ?_
        refine blockQ_ret ?_
        refine thenQ_ret ?_
        refine end1 rfl rfl ?_
        exact fun w1 hw1 => ⟨congrArg (fun b => Ending.returned (.int .i64 b)) (by unfold sgn; (repeat' split) <;> first | rfl | omega), hw1.chg⟩
    · skip
      refine tri_skip ?_
      refine thenQ_normal ?_
      refine tri_seq ?_
      refine tri_join (ι := Bool) (fun j => [(1, .int .u8 d), (5, .int .u8 c), (10, .bool j)]) (fun j => []) (fun j => j = decide (c = 40 ∨ c = 41 ∨ c = 44 ∨ c = 46 ∨ c = 59 ∨ c = 61 ∨ c = 43 ∨ c = 45 ∨ c = 42 ∨ c = 47 ∨ c = 37)) ?_ (fun j hj => ?_)
      · skip
        refine tri_seq ?_
        refine tri_region ?_
        refine o_eqlI rfl rfl rfl ?_
        refine o_assign rfl rfl ?_
        refine triL_nil ?_
        refine thenQ_normal ?_
        refine tri_if rfl (fun g5 => ?_) (fun g5 => ?_)
        · skip
          refine tri_skip ?_
          refine thenQ_normal ?_
          exact ⟨true, (.cons rfl (.cons rfl (.cons (congrArg (fun b => some (Value.bool b)) (by simp [*])) (.nil _)))), fun _ h => h, (by simp [*])⟩
        · skip
          refine tri_seq ?_
          refine tri_slots [(5, _), (1, _)] (.cons rfl (.cons rfl (.nil _))) ?_
          refine tri_region ?_
          refine o_eqlI rfl rfl rfl ?_
          refine o_assign rfl rfl ?_
          refine triL_nil ?_
          refine thenQ_normal ?_
          refine tri_if rfl (fun g6 => ?_) (fun g6 => ?_)
          · skip
            refine tri_skip ?_
            refine thenQ_normal ?_
            exact ⟨true, (.cons rfl (.cons rfl (.cons (congrArg (fun b => some (Value.bool b)) (by simp [*])) (.nil _)))), fun _ h => h, (by simp [*])⟩
          · skip
            refine tri_seq ?_
            refine tri_region ?_
            refine o_eqlI rfl rfl rfl ?_
            refine o_assign rfl rfl ?_
            refine triL_nil ?_
            refine thenQ_normal ?_
            refine tri_if rfl (fun g7 => ?_) (fun g7 => ?_)
            · skip
              refine tri_skip ?_
              refine thenQ_normal ?_
              exact ⟨true, (.cons rfl (.cons rfl (.cons (congrArg (fun b => some (Value.bool b)) (by simp [*])) (.nil _)))), fun _ h => h, (by simp [*])⟩
            · skip
              refine tri_seq ?_
              refine tri_region ?_
              refine o_eqlI rfl rfl rfl ?_
              refine o_assign rfl rfl ?_
              refine triL_nil ?_
              refine thenQ_normal ?_
              refine tri_if rfl (fun g8 => ?_) (fun g8 => ?_)
              · skip
                refine tri_skip ?_
                refine thenQ_normal ?_
                exact ⟨true, (.cons rfl (.cons rfl (.cons (congrArg (fun b => some (Value.bool b)) (by simp [*])) (.nil _)))), fun _ h => h, (by simp [*])⟩
              · skip
                refine tri_seq ?_
                refine tri_slots [(5, _), (1, _)] (.cons rfl (.cons rfl (.nil _))) ?_
                refine tri_region ?_
                refine o_eqlI rfl rfl rfl ?_
                refine o_assign rfl rfl ?_
                refine triL_nil ?_
                refine thenQ_normal ?_
                refine tri_if rfl (fun g9 => ?_) (fun g9 => ?_)
                · skip
                  refine tri_skip ?_
                  refine thenQ_normal ?_
                  exact ⟨true, (.cons rfl (.cons rfl (.cons (congrArg (fun b => some (Value.bool b)) (by simp [*])) (.nil _)))), fun _ h => h, (by simp [*])⟩
                · skip
                  refine tri_seq ?_
                  refine tri_region ?_
                  refine o_eqlI rfl rfl rfl ?_
                  refine o_assign rfl rfl ?_
                  refine triL_nil ?_
                  refine thenQ_normal ?_
                  refine tri_if rfl (fun g10 => ?_) (fun g10 => ?_)
                  · skip
                    refine tri_skip ?_
                    refine thenQ_normal ?_
                    exact ⟨true, (.cons rfl (.cons rfl (.cons (congrArg (fun b => some (Value.bool b)) (by simp [*])) (.nil _)))), fun _ h => h, (by simp [*])⟩
                  · skip
                    refine tri_seq ?_
                    refine tri_region ?_
                    refine o_eqlI rfl rfl rfl ?_
                    refine o_assign rfl rfl ?_
                    refine triL_nil ?_
                    refine thenQ_normal ?_
                    refine tri_if rfl (fun g11 => ?_) (fun g11 => ?_)
                    · skip
                      refine tri_skip ?_
                      refine thenQ_normal ?_
                      exact ⟨true, (.cons rfl (.cons rfl (.cons (congrArg (fun b => some (Value.bool b)) (by simp [*])) (.nil _)))), fun _ h => h, (by simp [*])⟩
                    · skip
                      refine tri_seq ?_
                      refine tri_slots [(5, _), (1, _)] (.cons rfl (.cons rfl (.nil _))) ?_
                      refine tri_region ?_
                      refine o_eqlI rfl rfl rfl ?_
                      refine o_assign rfl rfl ?_
                      refine triL_nil ?_
                      refine thenQ_normal ?_
                      refine tri_if rfl (fun g12 => ?_) (fun g12 => ?_)
                      · skip
                        refine tri_skip ?_
                        refine thenQ_normal ?_
                        exact ⟨true, (.cons rfl (.cons rfl (.cons (congrArg (fun b => some (Value.bool b)) (by simp [*])) (.nil _)))), fun _ h => h, (by simp [*])⟩
                      · skip
                        refine tri_seq ?_
                        refine tri_region ?_
                        refine o_eqlI rfl rfl rfl ?_
                        refine o_assign rfl rfl ?_
                        refine triL_nil ?_
                        refine thenQ_normal ?_
                        refine tri_if rfl (fun g13 => ?_) (fun g13 => ?_)
                        · skip
                          refine tri_skip ?_
                          refine thenQ_normal ?_
                          exact ⟨true, (.cons rfl (.cons rfl (.cons (congrArg (fun b => some (Value.bool b)) (by simp [*])) (.nil _)))), fun _ h => h, (by simp [*])⟩
                        · skip
                          refine tri_seq ?_
                          refine tri_region ?_
                          refine o_eqlI rfl rfl rfl ?_
                          refine o_assign rfl rfl ?_
                          refine triL_nil ?_
                          refine thenQ_normal ?_
                          refine tri_if rfl (fun g14 => ?_) (fun g14 => ?_)
                          · skip
                            refine tri_skip ?_
                            refine thenQ_normal ?_
                            exact ⟨true, (.cons rfl (.cons rfl (.cons (congrArg (fun b => some (Value.bool b)) (by simp [*])) (.nil _)))), fun _ h => h, (by simp [*])⟩
                          · skip
                            refine tri_slots [(5, _), (1, _)] (.cons rfl (.cons rfl (.nil _))) ?_
                            refine tri_region ?_
                            refine o_eqlI rfl rfl rfl ?_
                            refine o_assign rfl rfl ?_
                            refine triL_nil ?_
                            refine thenQ_normal ?_
                            exact ⟨decide (c = 37), (.cons rfl (.cons rfl (.cons rfl (.nil _)))), fun _ h => h, (by simp [*])⟩
      refine tri_cond rfl (fun h2 => ?_) (fun h2 => ?_)
      · skip
        have h2 := of_decide_eq_true (hj.symm.trans h2)
        refine tri_exit ?_
        refine thenQ_exit ?_
        refine thenQ_exit ?_
        refine blockQ_other rfl ?_
        refine thenQ_exit ?_
        refine blockQ_other rfl ?_
        refine thenQ_exit ?_
        refine blockQ_here ?_
        refine thenQ_normal ?_
        refine tri_seq ?_
        refine tri_seq ?_
        refine tri_region ?_
        refine o_assign rfl rfl ?_
        refine triL_nil ?_
        refine thenQ_normal ?_
        refine tri_ret ?_
        refine thenQ_ret ?_
        refine blockQ_ret ?_
        refine thenQ_ret ?_
        refine blockQ_ret ?_
        refine thenQ_ret ?_
        refine end1 rfl rfl ?_
        exact fun w1 hw1 => ⟨congrArg (fun b => Ending.returned (.int .i64 b)) (by unfold sgn; (repeat' split) <;> first | rfl | omega), hw1.chg⟩
      · skip
        have h2 := of_decide_eq_false (hj.symm.trans h2)
        refine tri_skip ?_
        refine thenQ_normal ?_
        refine tri_seq ?_
        refine tri_region ?_
        refine o_eqlI rfl rfl rfl ?_
        refine o_assign rfl rfl ?_
        refine triL_nil ?_
        refine thenQ_normal ?_
        refine tri_if rfl (fun h4 => ?_) (fun h4 => ?_)
        · skip
          refine tri_exit ?_
          refine thenQ_exit ?_
          refine blockQ_other rfl ?_
          refine thenQ_exit ?_
          refine blockQ_other rfl ?_
          refine thenQ_exit ?_
          refine blockQ_other rfl ?_
          refine thenQ_exit ?_
          refine blockQ_here ?_
          refine thenQ_normal ?_
          refine tri_seq ?_
          refine tri_seq ?_
          refine tri_slots [(1, _)] (.cons rfl (.nil _)) ?_
          refine tri_region ?_
          refine o_move rfl rfl ?_
          refine o_eqlI rfl rfl rfl ?_
          refine triL_nil ?_
          refine thenQ_normal ?_
          refine tri_if rfl (fun h5 => ?_) (fun h5 => ?_)
          · skip
            refine tri_seq ?_
            refine tri_region ?_
            refine o_assign rfl rfl ?_
            refine triL_nil ?_
            refine thenQ_normal ?_
            refine tri_ret ?_
            refine thenQ_ret ?_
            refine blockQ_ret ?_
            refine thenQ_ret ?_
            refine end1 rfl rfl ?_
            exact fun w1 hw1 => ⟨congrArg (fun b => Ending.returned (.int .i64 b)) (by unfold sgn; (repeat' split) <;> first | rfl | omega), hw1.chg⟩
          · skip
            refine tri_skip ?_
            refine thenQ_normal ?_
            refine tri_exit ?_
            refine blockQ_here ?_
            refine thenQ_normal ?_
            refine tri_seq ?_
            refine tri_region ?_
            refine o_assign rfl rfl ?_
            refine triL_nil ?_
            refine thenQ_normal ?_
            refine tri_ret ?_
            refine end1 rfl rfl ?_
            exact fun w1 hw1 => ⟨congrArg (fun b => Ending.returned (.int .i64 b)) (by unfold sgn; (repeat' split) <;> first | rfl | omega), hw1.chg⟩
        · skip
          refine tri_skip ?_
          refine thenQ_normal ?_
          refine tri_exit ?_
          refine blockQ_other rfl ?_
          refine thenQ_exit ?_
          refine blockQ_other rfl ?_
          refine thenQ_exit ?_
          refine blockQ_other rfl ?_
          refine thenQ_exit ?_
          refine blockQ_other rfl ?_
          refine thenQ_exit ?_
          refine blockQ_here ?_
          refine thenQ_normal ?_
          refine tri_seq ?_
          refine tri_slots [] (.nil _) ?_
          refine tri_region ?_
          refine o_assign rfl rfl ?_
          refine triL_nil ?_
          refine thenQ_normal ?_
          refine tri_ret ?_
          refine end1 rfl rfl ?_
          exact fun w1 hw1 => ⟨congrArg (fun b => Ending.returned (.int .i64 b)) (by unfold sgn; (repeat' split) <;> first | rfl | omega), hw1.chg⟩

end Go.Proofs.YtdcdpegomncomaaGreatDoor
