/- the values' functions, walked: which may be, their order -/
import Derived.Test.YtgogkkkacpacgaaDoorVLib
namespace Go.Proofs.YtgogkkkacpacgaaDoor
open Go.WK Go.RowKit 

theorem fo23_0 : fieldB Tryd.prog 23 0 = some 0 := by kernel_rfl
theorem agg3 : aggB Tryd.prog 3 = some false := by kernel_rfl
theorem fo23_2 : fieldB Tryd.prog 23 2 = some 2 := by kernel_rfl
theorem agg9 : aggB Tryd.prog 9 = some false := by kernel_rfl
theorem fo23_1 : fieldB Tryd.prog 23 1 = some 1 := by kernel_rfl
theorem agg2 : aggB Tryd.prog 2 = some false := by kernel_rfl
theorem agg23 : aggB Tryd.prog 23 = some true := by kernel_rfl
theorem sz23 : szB Tryd.prog 23 = some 3 := by kernel_rfl
theorem bval23  : Tryd.prog.built 23 [] = some (Val.cs ⟨0, 0, []⟩).toArray := by kernel_rfl
theorem flat23 : flatB Tryd.prog 23 = some valKs := by kernel_rfl
theorem zero23 : (Tryd.prog.info? 23).map (·.zero) = some (some (.agg #[.int .i64 0, .int .i64 0, .string .empty])) := by kernel_rfl
theorem bval23_0_1 (x : Int) (y : Int) : Tryd.prog.built 23 [(0, .int .i64 x), (1, .int .i64 y)] = some (Val.cs ⟨x, y, []⟩).toArray := by kernel_rfl
theorem bval23_0 (x : Int) : Tryd.prog.built 23 [(0, .int .i64 x)] = some (Val.cs ⟨x, 0, []⟩).toArray := by kernel_rfl

theorem place3 (k : Int) (w : World)  : Calls Tryd.prog 76 #[.int .i64 k] w (Pure w (.int .i64 (place k))) := by
  refine calls_tri (args := [.int .i64 k]) (lent := []) (H := []) Tryd.func76 rfl Tryd.ntmps76 rfl (Sat.start _ _ _ _) ?_
  refine (show Tri _ [(0, _)] _ _ _ from ?_)
  refine tri_seq ?_
  refine tri_region ?_
  refine o_assign rfl rfl ?_
  refine triL_nil ?_
  refine thenQ_normal ?_
  refine tri_seq ?_
  refine tri_seq ?_
  refine tri_region ?_
  refine o_move rfl rfl ?_
  refine o_eqlI rfl rfl rfl ?_
  refine triL_nil ?_
  refine thenQ_normal ?_
  refine tri_if rfl (fun h1 => ?_) (fun h1 => ?_)
  · skip
    refine tri_seq ?_
    refine tri_slots [] (.nil _) ?_
    refine tri_region ?_
    refine o_assign rfl rfl ?_
    refine triL_nil ?_
    refine thenQ_normal ?_
    refine tri_ret ?_
    refine thenQ_ret ?_
    refine end1 rfl rfl ?_
    exact fun w1 hw1 => ⟨congrArg (fun b => Ending.returned (.int .i64 b)) (by simp [place, *]), hw1.chg⟩
  · skip
    refine tri_skip ?_
    refine thenQ_normal ?_
    refine tri_seq ?_
    refine tri_seq ?_
    refine tri_region ?_
    refine o_move rfl rfl ?_
    refine o_eqlI rfl rfl rfl ?_
    refine triL_nil ?_
    refine thenQ_normal ?_
    refine tri_if rfl (fun h2 => ?_) (fun h2 => ?_)
    · skip
      refine tri_seq ?_
      refine tri_slots [] (.nil _) ?_
      refine tri_region ?_
      refine o_assign rfl rfl ?_
      refine triL_nil ?_
      refine thenQ_normal ?_
      refine tri_ret ?_
      refine thenQ_ret ?_
      refine end1 rfl rfl ?_
      exact fun w1 hw1 => ⟨congrArg (fun b => Ending.returned (.int .i64 b)) (by simp [place, *]), hw1.chg⟩
    · skip
      refine tri_skip ?_
      refine thenQ_normal ?_
      refine tri_seq ?_
      refine tri_seq ?_
      refine tri_slots [(0, _)] (.cons rfl (.nil _)) ?_
      refine tri_region ?_
      refine o_move rfl rfl ?_
      refine o_eqlI rfl rfl rfl ?_
      refine triL_nil ?_
      refine thenQ_normal ?_
      refine tri_if rfl (fun h3 => ?_) (fun h3 => ?_)
      · skip
        refine tri_seq ?_
        refine tri_region ?_
        refine o_assign rfl rfl ?_
        refine triL_nil ?_
        refine thenQ_normal ?_
        refine tri_ret ?_
        refine thenQ_ret ?_
        refine end1 rfl rfl ?_
        exact fun w1 hw1 => ⟨congrArg (fun b => Ending.returned (.int .i64 b)) (by simp [place, *]), hw1.chg⟩
      · skip
        refine tri_skip ?_
        refine thenQ_normal ?_
        refine tri_seq ?_
        refine tri_region ?_
        refine o_assign rfl rfl ?_
        refine triL_nil ?_
        refine thenQ_normal ?_
        refine tri_ret ?_
        refine end1 rfl rfl ?_
        exact fun w1 hw1 => ⟨congrArg (fun b => Ending.returned (.int .i64 b)) (by simp [place, *]), hw1.chg⟩

theorem bytes3 (a b : List UInt8) (w : World) (ha : a.length ≤ 140737488355328) (hb : b.length ≤ 140737488355328) : Calls Tryd.prog 77 #[.string (B a), .string (B b)] w (Pure w (.int .i64 (cmpB a b))) := by
  refine calls_tri (args := [.string (B a), .string (B b)]) (lent := []) (H := []) Tryd.func77 rfl Tryd.ntmps77 rfl (Sat.start _ _ _ _) ?_
  refine (show Tri _ [(0, _), (1, _)] _ _ _ from ?_)
  refine tri_seq ?_
  refine tri_region ?_
  refine o_assign rfl rfl ?_
  refine triL_nil ?_
  refine thenQ_normal ?_
  refine tri_seq ?_
  refine tri_seq ?_
  refine tri_region ?_
  refine o_assign rfl rfl ?_
  refine triL_nil ?_
  refine thenQ_normal ?_
  refine tri_block ?_
  refine tri_loop (ι := Nat) (F := fun i => [(0, .string (B a)), (1, .string (B b)), (5, .int .i64 (i : Int))]) (HH := fun i => []) (Pu := fun i => i ≤ a.length ∧ i ≤ b.length ∧ cmpB a b = cmpB (a.drop i) (b.drop i)) (μ := fun i => a.length - i) (0) (.cons rfl (.cons rfl (.cons rfl (.nil _)))) (fun _ h => h) (⟨by omega, by omega, rfl⟩) (fun i hi => ?_)
  refine tri_seq ?_
  refine tri_seq ?_
  refine tri_region ?_
  refine o_move rfl rfl ?_
  refine o_move rfl rfl ?_
  refine o_lenB Tryd.underlying9 rfl rfl ?_
  refine o_lss rfl rfl rfl ?_
  refine o_move rfl rfl ?_
  refine' triL_and [_, _, _, _] [(0, _), (1, _), (5, _)] (dj := 10) (dr := 14) rfl rfl (fun g1 => ?_) ⟨_, rfl, rfl, rfl, (.cons rfl (.cons rfl (.cons rfl (.nil _))))⟩ rfl ?_
  rotate_left
  · skip
    have g1 := of_decide_eq_true g1
    refine o_move rfl rfl ?_
    refine o_move rfl rfl ?_
    refine o_lenB Tryd.underlying9 rfl rfl ?_
    refine o_lss rfl rfl rfl ?_
    exact triL_nil (Piece.mk rfl rfl (.cons rfl (.cons rfl (.cons rfl (.nil _)))) (fun _ h => h))
  refine triL_nil ?_
  refine thenQ_normal ?_
  refine tri_cond rfl (fun h1 => ?_) (fun h1 => ?_)
  · skip
    simp only [Bool.and_eq_true, decide_eq_true_eq] at h1
    have e := cmpB_drop a b i (by omega) (by omega)
    refine tri_skip ?_
    refine thenQ_normal ?_
    refine tri_seq ?_
    refine tri_block ?_
    refine tri_seq ?_
    refine tri_seq ?_
    refine tri_quiet (by kernel_rfl) (by kernel_rfl) ?_
    refine o_move rfl rfl ?_
    refine o_move rfl rfl ?_
    refine o_idxB Tryd.underlying9 rfl rfl rfl (by omega) (by omega) ?_
    refine o_move rfl rfl ?_
    refine o_move rfl rfl ?_
    refine o_idxB Tryd.underlying9 rfl rfl rfl (by omega) (by omega) ?_
    refine o_lss rfl rfl rfl ?_
    refine triL_nil ?_
    refine thenQ_normal ?_
    refine tri_if rfl (fun h2 => ?_) (fun h2 => ?_)
    · skip
      refine tri_seq ?_
      refine tri_slots [] (.nil _) ?_
      refine tri_region ?_
      refine o_assign rfl rfl ?_
      refine triL_nil ?_
      refine thenQ_normal ?_
      refine tri_ret ?_
      refine thenQ_ret ?_
      refine blockQ_ret ?_
      refine thenQ_ret ?_
      refine thenQ_ret ?_
      refine blockQ_ret ?_
      refine thenQ_ret ?_
      refine end1 rfl rfl ?_
      exact fun w1 hw1 => ⟨congrArg (fun b => Ending.returned (.int .i64 b)) (by rw [hi.2.2, e, if_pos (by simpa using h2)]), hw1.chg⟩
    · skip
      refine tri_skip ?_
      refine thenQ_normal ?_
      refine tri_seq ?_
      refine tri_slots [(0, _), (1, _), (5, _)] (.cons rfl (.cons rfl (.cons rfl (.nil _)))) ?_
      refine tri_quiet (by kernel_rfl) (by kernel_rfl) ?_
      refine o_move rfl rfl ?_
      refine o_move rfl rfl ?_
      refine o_idxB Tryd.underlying9 rfl rfl rfl (by omega) (by omega) ?_
      refine o_move rfl rfl ?_
      refine o_move rfl rfl ?_
      refine o_idxB Tryd.underlying9 rfl rfl rfl (by omega) (by omega) ?_
      refine o_gtr rfl rfl rfl ?_
      refine triL_nil ?_
      refine thenQ_normal ?_
      refine tri_if rfl (fun h3 => ?_) (fun h3 => ?_)
      · skip
        refine tri_seq ?_
        refine tri_slots [] (.nil _) ?_
        refine tri_region ?_
        refine o_assign rfl rfl ?_
        refine triL_nil ?_
        refine thenQ_normal ?_
        refine tri_ret ?_
        refine blockQ_ret ?_
        refine thenQ_ret ?_
        refine thenQ_ret ?_
        refine blockQ_ret ?_
        refine thenQ_ret ?_
        refine end1 rfl rfl ?_
        exact fun w1 hw1 => ⟨congrArg (fun b => Ending.returned (.int .i64 b)) (by rw [hi.2.2, e, if_neg (by simpa using h2), if_pos (by simpa using h3)]), hw1.chg⟩
      · skip
        refine tri_skip ?_
        refine blockQ_normal ?_
        refine thenQ_normal ?_
        refine tri_slots [(0, _), (1, _), (5, _)] (.cons rfl (.cons rfl (.cons rfl (.nil _)))) ?_
        refine tri_region ?_
        refine o_move rfl rfl ?_
        refine o_addN rfl rfl rfl (by omega) ?_
        refine o_assign rfl rfl ?_
        refine triL_nil ?_
        refine thenQ_normal ?_
        exact ⟨i + 1, (.cons rfl (.cons rfl (.cons rfl (.nil _)))), fun _ h => h, ⟨by omega, by omega, by rw [hi.2.2, cmpB_drop a b i (by omega) (by omega), if_neg (by simpa using h2), if_neg (by simpa using h3)]⟩, by omega⟩
  · skip
    simp only [Bool.and_eq_false_iff, decide_eq_false_iff_not] at h1
    have e := cmpB_end a b i hi.1 hi.2.1 (by omega)
    refine tri_exit ?_
    refine thenQ_exit ?_
    refine thenQ_exit ?_
    refine blockQ_here ?_
    refine thenQ_normal ?_
    refine tri_seq ?_
    refine tri_seq ?_
    refine tri_region ?_
    refine o_move rfl rfl ?_
    refine o_lenB Tryd.underlying9 rfl rfl ?_
    refine o_move rfl rfl ?_
    refine o_lenB Tryd.underlying9 rfl rfl ?_
    refine o_lss rfl rfl rfl ?_
    refine triL_nil ?_
    refine thenQ_normal ?_
    refine tri_if rfl (fun h4 => ?_) (fun h4 => ?_)
    · skip
      refine tri_seq ?_
      refine tri_slots [] (.nil _) ?_
      refine tri_region ?_
      refine o_assign rfl rfl ?_
      refine triL_nil ?_
      refine thenQ_normal ?_
      refine tri_ret ?_
      refine thenQ_ret ?_
      refine end1 rfl rfl ?_
      exact fun w1 hw1 => ⟨congrArg (fun b => Ending.returned (.int .i64 b)) (by rw [hi.2.2, e, if_pos (by omega)]), hw1.chg⟩
    · skip
      refine tri_skip ?_
      refine thenQ_normal ?_
      refine tri_seq ?_
      refine tri_seq ?_
      refine tri_slots [(0, _), (1, _)] (.cons rfl (.cons rfl (.nil _))) ?_
      refine tri_region ?_
      refine o_move rfl rfl ?_
      refine o_lenB Tryd.underlying9 rfl rfl ?_
      refine o_move rfl rfl ?_
      refine o_lenB Tryd.underlying9 rfl rfl ?_
      refine o_gtr rfl rfl rfl ?_
      refine triL_nil ?_
      refine thenQ_normal ?_
      refine tri_if rfl (fun h5 => ?_) (fun h5 => ?_)
      · skip
        refine tri_seq ?_
        refine tri_slots [] (.nil _) ?_
        refine tri_region ?_
        refine o_assign rfl rfl ?_
        refine triL_nil ?_
        refine thenQ_normal ?_
        refine tri_ret ?_
        refine thenQ_ret ?_
        refine end1 rfl rfl ?_
        exact fun w1 hw1 => ⟨congrArg (fun b => Ending.returned (.int .i64 b)) (by rw [hi.2.2, e, if_neg (by omega), if_pos (by omega)]), hw1.chg⟩
      · skip
        refine tri_skip ?_
        refine thenQ_normal ?_
        refine tri_seq ?_
        refine tri_slots [] (.nil _) ?_
        refine tri_region ?_
        refine o_assign rfl rfl ?_
        refine triL_nil ?_
        refine thenQ_normal ?_
        refine tri_ret ?_
        refine end1 rfl rfl ?_
        exact fun w1 hw1 => ⟨congrArg (fun b => Ending.returned (.int .i64 b)) (by rw [hi.2.2, e, if_neg (by omega), if_neg (by omega)]), hw1.chg⟩

def fit (v : Val) : Prop := v.ok ∧ v.s.length ≤ 140737488355328

theorem order3 (a b : Val) (w : World) (fa : fit a) (fb : fit b) : Calls Tryd.prog 46 #[aggV a, aggV b] w (Pure w (.int .i64 (cmpV a b))) := by
  refine calls_tri (args := [aggV a, aggV b]) (lent := []) (H := []) Tryd.func46 rfl Tryd.ntmps46 rfl (Sat.start _ _ _ _) ?_
  refine (show Tri _ [(0, _), (1, _)] _ _ _ from ?_)
  refine tri_seq ?_
  refine tri_region ?_
  refine o_box (Val.cs _) rfl rfl rfl (fun b2 => ?_)
  refine o_box (Val.cs _) rfl rfl rfl (fun b3 => ?_)
  refine o_assign rfl rfl ?_
  refine triL_nil ?_
  refine thenQ_normal ?_
  refine tri_seq ?_
  refine tri_mix (_) [(0, true), (1, true), (2, true), (3, true), (4, true), (5, false), (6, false), (7, false)] [5, 6, 7] (by kernel_rfl) (by kernel_rfl) (fun _ h => h) ?_
  refine mix_fix rfl ?_
  refine o_field fo23_0 rfl rfl ?_
  refine triL_nil ⟨rfl, ?_⟩
  refine mix_fix rfl ?_
  refine o_load agg3 (by first | exact Nth.z | exact .s .z | exact .s (.s .z) | exact .s (.s (.s .z)) | exact .s (.s (.s (.s .z))) | exact .s (.s (.s (.s (.s .z)))) | exact .s (.s (.s (.s (.s (.s .z))))) | exact .s (.s (.s (.s (.s (.s (.s .z))))))) rfl rfl rfl ?_
  refine triL_nil ⟨rfl, ?_⟩
  refine mix_fix rfl ?_
  refine o_callP (first := []) (cap := []) rfl rfl rfl Tryd.call76 (fun w1 h1 => place3 a.k w1) ?_
  refine triL_nil ⟨rfl, ?_⟩
  refine mix_fix rfl ?_
  refine o_field fo23_0 rfl rfl ?_
  refine triL_nil ⟨rfl, ?_⟩
  refine mix_fix rfl ?_
  refine o_load agg3 (by first | exact Nth.z | exact .s .z | exact .s (.s .z) | exact .s (.s (.s .z)) | exact .s (.s (.s (.s .z))) | exact .s (.s (.s (.s (.s .z)))) | exact .s (.s (.s (.s (.s (.s .z))))) | exact .s (.s (.s (.s (.s (.s (.s .z))))))) rfl rfl rfl ?_
  refine triL_nil ⟨rfl, ?_⟩
  refine mix_rest [5, 6, 7] [_, _, _] rfl rfl ?_
  refine o_callP (first := []) (cap := []) rfl rfl rfl Tryd.call76 (fun w1 h1 => place3 b.k w1) ?_
  refine o_assign rfl rfl ?_
  refine o_assign rfl rfl ?_
  refine triL_nil ⟨rfl, ?_⟩
  refine thenQ_normal ?_
  refine tri_seq ?_
  refine tri_seq ?_
  refine tri_slots [(6, _), (5, _), (3, _), (2, _)] (.cons rfl (.cons rfl (.cons rfl (.cons rfl (.nil _))))) ?_
  refine tri_region ?_
  refine o_move rfl rfl ?_
  refine o_move rfl rfl ?_
  refine o_lss rfl rfl rfl ?_
  refine triL_nil ?_
  refine thenQ_normal ?_
  refine tri_if rfl (fun h1 => ?_) (fun h1 => ?_)
  · skip
    refine tri_seq ?_
    refine tri_slots [] (.nil _) ?_
    refine tri_region ?_
    refine o_assign rfl rfl ?_
    refine triL_nil ?_
    refine thenQ_normal ?_
    refine tri_ret ?_
    refine thenQ_ret ?_
    refine end1 rfl rfl ?_
    exact fun w1 hw1 => ⟨congrArg (fun b => Ending.returned (.int .i64 b)) (by simp [cmpV, *]), hw1.chg⟩
  · skip
    refine tri_skip ?_
    refine thenQ_normal ?_
    refine tri_seq ?_
    refine tri_seq ?_
    refine tri_region ?_
    refine o_move rfl rfl ?_
    refine o_move rfl rfl ?_
    refine o_gtr rfl rfl rfl ?_
    refine triL_nil ?_
    refine thenQ_normal ?_
    refine tri_if rfl (fun h2 => ?_) (fun h2 => ?_)
    · skip
      refine tri_seq ?_
      refine tri_slots [] (.nil _) ?_
      refine tri_region ?_
      refine o_assign rfl rfl ?_
      refine triL_nil ?_
      refine thenQ_normal ?_
      refine tri_ret ?_
      refine thenQ_ret ?_
      refine end1 rfl rfl ?_
      exact fun w1 hw1 => ⟨congrArg (fun b => Ending.returned (.int .i64 b)) (by simp [cmpV, *]), hw1.chg⟩
    · skip
      refine tri_skip ?_
      refine thenQ_normal ?_
      refine tri_seq ?_
      refine tri_seq ?_
      refine tri_slots [(3, _), (2, _)] (.cons rfl (.cons rfl (.nil _))) ?_
      refine tri_region ?_
      refine o_field fo23_0 rfl rfl ?_
      refine o_load agg3 (by first | exact Nth.z | exact .s .z | exact .s (.s .z) | exact .s (.s (.s .z)) | exact .s (.s (.s (.s .z))) | exact .s (.s (.s (.s (.s .z)))) | exact .s (.s (.s (.s (.s (.s .z))))) | exact .s (.s (.s (.s (.s (.s (.s .z))))))) rfl rfl rfl ?_
      refine o_eqlI rfl rfl rfl ?_
      refine triL_nil ?_
      refine thenQ_normal ?_
      refine tri_if rfl (fun h3 => ?_) (fun h3 => ?_)
      · skip
        refine tri_seq ?_
        refine tri_region ?_
        refine o_field fo23_2 rfl rfl ?_
        refine o_load agg9 (by first | exact Nth.z | exact .s .z | exact .s (.s .z) | exact .s (.s (.s .z)) | exact .s (.s (.s (.s .z))) | exact .s (.s (.s (.s (.s .z)))) | exact .s (.s (.s (.s (.s (.s .z))))) | exact .s (.s (.s (.s (.s (.s (.s .z))))))) rfl rfl rfl ?_
        refine o_field fo23_2 rfl rfl ?_
        refine o_load agg9 (by first | exact Nth.z | exact .s .z | exact .s (.s .z) | exact .s (.s (.s .z)) | exact .s (.s (.s (.s .z))) | exact .s (.s (.s (.s (.s .z)))) | exact .s (.s (.s (.s (.s (.s .z))))) | exact .s (.s (.s (.s (.s (.s (.s .z))))))) rfl rfl rfl ?_
        refine o_callP (first := []) (cap := []) rfl rfl rfl Tryd.call77 (fun w1 h1 => bytes3 a.s b.s w1 fa.2 fb.2) ?_
        refine o_assign rfl rfl ?_
        refine triL_nil ?_
        refine thenQ_normal ?_
        refine tri_ret ?_
        refine thenQ_ret ?_
        refine end1 rfl rfl ?_
        exact fun w1 hw1 => ⟨congrArg (fun b => Ending.returned (.int .i64 b)) (by unfold cmpV; rw [if_neg h1, if_neg h2, if_pos h3]), hw1.chg⟩
      · skip
        refine tri_skip ?_
        refine thenQ_normal ?_
        refine tri_seq ?_
        refine tri_seq ?_
        refine tri_region ?_
        refine o_field fo23_1 rfl rfl ?_
        refine o_load agg2 (by first | exact Nth.z | exact .s .z | exact .s (.s .z) | exact .s (.s (.s .z)) | exact .s (.s (.s (.s .z))) | exact .s (.s (.s (.s (.s .z)))) | exact .s (.s (.s (.s (.s (.s .z))))) | exact .s (.s (.s (.s (.s (.s (.s .z))))))) rfl rfl rfl ?_
        refine o_field fo23_1 rfl rfl ?_
        refine o_load agg2 (by first | exact Nth.z | exact .s .z | exact .s (.s .z) | exact .s (.s (.s .z)) | exact .s (.s (.s (.s .z))) | exact .s (.s (.s (.s (.s .z)))) | exact .s (.s (.s (.s (.s (.s .z))))) | exact .s (.s (.s (.s (.s (.s (.s .z))))))) rfl rfl rfl ?_
        refine o_lss rfl rfl rfl ?_
        refine triL_nil ?_
        refine thenQ_normal ?_
        refine tri_if rfl (fun h4 => ?_) (fun h4 => ?_)
        · skip
          refine tri_seq ?_
          refine tri_slots [] (.nil _) ?_
          refine tri_region ?_
          refine o_assign rfl rfl ?_
          refine triL_nil ?_
          refine thenQ_normal ?_
          refine tri_ret ?_
          refine thenQ_ret ?_
          refine end1 rfl rfl ?_
          exact fun w1 hw1 => ⟨congrArg (fun b => Ending.returned (.int .i64 b)) (by simp [cmpV, *]), hw1.chg⟩
        · skip
          refine tri_skip ?_
          refine thenQ_normal ?_
          refine tri_seq ?_
          refine tri_seq ?_
          refine tri_slots [(3, _), (2, _)] (.cons rfl (.cons rfl (.nil _))) ?_
          refine tri_region ?_
          refine o_field fo23_1 rfl rfl ?_
          refine o_load agg2 (by first | exact Nth.z | exact .s .z | exact .s (.s .z) | exact .s (.s (.s .z)) | exact .s (.s (.s (.s .z))) | exact .s (.s (.s (.s (.s .z)))) | exact .s (.s (.s (.s (.s (.s .z))))) | exact .s (.s (.s (.s (.s (.s (.s .z))))))) rfl rfl rfl ?_
          refine o_field fo23_1 rfl rfl ?_
          refine o_load agg2 (by first | exact Nth.z | exact .s .z | exact .s (.s .z) | exact .s (.s (.s .z)) | exact .s (.s (.s (.s .z))) | exact .s (.s (.s (.s (.s .z)))) | exact .s (.s (.s (.s (.s (.s .z))))) | exact .s (.s (.s (.s (.s (.s (.s .z))))))) rfl rfl rfl ?_
          refine o_gtr rfl rfl rfl ?_
          refine triL_nil ?_
          refine thenQ_normal ?_
          refine tri_if rfl (fun h5 => ?_) (fun h5 => ?_)
          · skip
            refine tri_seq ?_
            refine tri_slots [] (.nil _) ?_
            refine tri_region ?_
            refine o_assign rfl rfl ?_
            refine triL_nil ?_
            refine thenQ_normal ?_
            refine tri_ret ?_
            refine thenQ_ret ?_
            refine end1 rfl rfl ?_
            exact fun w1 hw1 => ⟨congrArg (fun b => Ending.returned (.int .i64 b)) (by simp [cmpV, *]), hw1.chg⟩
          · skip
            refine tri_skip ?_
            refine thenQ_normal ?_
            refine tri_seq ?_
            refine tri_slots [] (.nil _) ?_
            refine tri_region ?_
            refine o_assign rfl rfl ?_
            refine triL_nil ?_
            refine thenQ_normal ?_
            refine tri_ret ?_
            refine end1 rfl rfl ?_
            exact fun w1 hw1 => ⟨congrArg (fun b => Ending.returned (.int .i64 b)) (by simp [cmpV, *]), hw1.chg⟩

theorem mayK (v : Val) (w : World) (f : fit v) : Calls Tryd.prog 14 #[aggV v] w (Pure w (.bool (may v))) := by
  refine calls_tri (args := [aggV v]) (lent := []) (H := []) Tryd.func14 rfl Tryd.ntmps14 rfl (Sat.start _ _ _ _) ?_
  refine (show Tri _ [(0, _)] _ _ _ from ?_)
  have hs := f.2
  have e64 : decide ((v.s.length : Int) ≤ 64) = decide (v.s.length ≤ 64) := le_dec _ 64
  refine tri_seq ?_
  refine tri_region ?_
  refine o_box (Val.cs _) rfl rfl rfl (fun b1 => ?_)
  refine o_assign rfl rfl ?_
  refine triL_nil ?_
  refine thenQ_normal ?_
  refine tri_seq ?_
  refine tri_seq ?_
  refine tri_region ?_
  refine o_field fo23_0 rfl rfl ?_
  refine o_load agg3 (by first | exact Nth.z | exact .s .z | exact .s (.s .z) | exact .s (.s (.s .z)) | exact .s (.s (.s (.s .z))) | exact .s (.s (.s (.s (.s .z)))) | exact .s (.s (.s (.s (.s (.s .z))))) | exact .s (.s (.s (.s (.s (.s (.s .z))))))) rfl rfl rfl ?_
  refine triL_nil ?_
  refine thenQ_normal ?_
  refine tri_block ?_
  refine tri_seq ?_
  refine tri_region ?_
  refine o_eqlI rfl rfl rfl ?_
  refine o_assign rfl rfl ?_
  refine triL_nil ?_
  refine thenQ_normal ?_
  refine tri_if rfl (fun h1 => ?_) (fun h1 => ?_)
  · skip
    refine tri_seq ?_
    refine tri_slots [(1, _)] (.cons rfl (.nil _)) ?_
    refine tri_region ?_
    refine o_loadBV agg23 sz23 (by first | exact Nth.z | exact .s .z | exact .s (.s .z) | exact .s (.s (.s .z)) | exact .s (.s (.s (.s .z))) | exact .s (.s (.s (.s (.s .z)))) | exact .s (.s (.s (.s (.s (.s .z))))) | exact .s (.s (.s (.s (.s (.s (.s .z))))))) rfl rfl ?_
    refine o_build bval23 rfl rfl ?_
    refine o_eqlV flat23 rfl rfl rfl ?_
    refine o_assign rfl rfl ?_
    refine triL_nil ?_
    refine thenQ_normal ?_
    refine tri_ret ?_
    refine blockQ_ret ?_
    refine thenQ_ret ?_
    refine end1 rfl rfl ?_
    exact fun w1 hw1 => ⟨congrArg (fun b => Ending.returned (.bool b)) (by simp [may, val_dec, *]), hw1.chg⟩
  · skip
    refine tri_seq ?_
    refine tri_slots [(4, _), (1, _)] (.cons rfl (.cons rfl (.nil _))) ?_
    refine tri_region ?_
    refine o_eqlI rfl rfl rfl ?_
    refine o_assign rfl rfl ?_
    refine triL_nil ?_
    refine thenQ_normal ?_
    refine tri_if rfl (fun h2 => ?_) (fun h2 => ?_)
    · skip
      refine tri_seq ?_
      refine tri_region ?_
      refine o_field fo23_2 rfl rfl ?_
      refine o_load agg9 (by first | exact Nth.z | exact .s .z | exact .s (.s .z) | exact .s (.s (.s .z)) | exact .s (.s (.s (.s .z))) | exact .s (.s (.s (.s (.s .z)))) | exact .s (.s (.s (.s (.s (.s .z))))) | exact .s (.s (.s (.s (.s (.s (.s .z))))))) rfl rfl rfl ?_
      refine o_eqlT rfl rfl rfl ?_
      refine o_assign rfl rfl ?_
      refine triL_nil ?_
      refine thenQ_normal ?_
      refine tri_ret ?_
      refine blockQ_ret ?_
      refine thenQ_ret ?_
      refine end1 rfl rfl ?_
      exact fun w1 hw1 => ⟨congrArg (fun b => Ending.returned (.bool b)) (by simp [may, val_dec, *]), hw1.chg⟩
    · skip
      refine tri_seq ?_
      refine tri_region ?_
      refine o_eqlI rfl rfl rfl ?_
      refine o_assign rfl rfl ?_
      refine triL_nil ?_
      refine thenQ_normal ?_
      refine tri_if rfl (fun h3 => ?_) (fun h3 => ?_)
      · skip
        refine tri_seq ?_
        refine tri_slots [(1, _)] (.cons rfl (.nil _)) ?_
        refine tri_region ?_
        refine o_field fo23_1 rfl rfl ?_
        refine o_load agg2 (by first | exact Nth.z | exact .s .z | exact .s (.s .z) | exact .s (.s (.s .z)) | exact .s (.s (.s (.s .z))) | exact .s (.s (.s (.s (.s .z)))) | exact .s (.s (.s (.s (.s (.s .z))))) | exact .s (.s (.s (.s (.s (.s (.s .z))))))) rfl rfl rfl ?_
        refine o_eqlI rfl rfl rfl ?_
        refine o_move rfl rfl ?_
        refine' triL_and [_, _, _, _] [] (dj := 20) (dr := 24) rfl rfl (fun g1 => ?_) ⟨_, rfl, rfl, rfl, (.nil _)⟩ rfl ?_
        rotate_left
        · skip
          have g1 := of_decide_eq_true g1
          refine o_field fo23_2 rfl rfl ?_
          refine o_load agg9 (by first | exact Nth.z | exact .s .z | exact .s (.s .z) | exact .s (.s (.s .z)) | exact .s (.s (.s (.s .z))) | exact .s (.s (.s (.s (.s .z)))) | exact .s (.s (.s (.s (.s (.s .z))))) | exact .s (.s (.s (.s (.s (.s (.s .z))))))) rfl rfl rfl ?_
          refine o_lenB Tryd.underlying9 rfl rfl ?_
          refine o_leq rfl rfl rfl ?_
          exact triL_nil (Piece.mk rfl rfl (.nil _) (fun _ h => h))
        refine o_assign rfl rfl ?_
        refine triL_nil ?_
        refine thenQ_normal ?_
        refine tri_ret ?_
        refine blockQ_ret ?_
        refine thenQ_ret ?_
        refine end1 rfl rfl ?_
        exact fun w1 hw1 => ⟨congrArg (fun b => Ending.returned (.bool b)) (by simp [may, val_dec, *]), hw1.chg⟩
      · skip
        refine tri_seq ?_
        refine tri_slots [(4, _), (1, _)] (.cons rfl (.cons rfl (.nil _))) ?_
        refine tri_region ?_
        refine o_eqlI rfl rfl rfl ?_
        refine o_assign rfl rfl ?_
        refine triL_nil ?_
        refine thenQ_normal ?_
        refine tri_if rfl (fun h4 => ?_) (fun h4 => ?_)
        · skip
          refine tri_seq ?_
          refine tri_region ?_
          refine o_field fo23_2 rfl rfl ?_
          refine o_load agg9 (by first | exact Nth.z | exact .s .z | exact .s (.s .z) | exact .s (.s (.s .z)) | exact .s (.s (.s (.s .z))) | exact .s (.s (.s (.s (.s .z)))) | exact .s (.s (.s (.s (.s (.s .z))))) | exact .s (.s (.s (.s (.s (.s (.s .z))))))) rfl rfl rfl ?_
          refine o_eqlT rfl rfl rfl ?_
          refine o_move rfl rfl ?_
          refine' triL_and [_, _, _, _, _, _, _, _] [] (dj := 31) (dr := 39) rfl rfl (fun g2 => ?_) ⟨_, rfl, rfl, rfl, (.nil _)⟩ rfl ?_
          rotate_left
          · skip
            have g2 := of_decide_eq_true g2
            refine o_field fo23_1 rfl rfl ?_
            refine o_load agg2 (by first | exact Nth.z | exact .s .z | exact .s (.s .z) | exact .s (.s (.s .z)) | exact .s (.s (.s (.s .z))) | exact .s (.s (.s (.s (.s .z)))) | exact .s (.s (.s (.s (.s (.s .z))))) | exact .s (.s (.s (.s (.s (.s (.s .z))))))) rfl rfl rfl ?_
            refine o_eqlI rfl rfl rfl ?_
            refine o_move rfl rfl ?_
            refine' triL_or [_, _, _] [(31, _)] (dj := 35) (dr := 38) rfl rfl (fun g3 => ?_) ⟨_, rfl, rfl, rfl, (.cons rfl (.nil _))⟩ rfl ?_
            rotate_left
            · skip
              have g3 := of_decide_eq_false g3
              refine o_field fo23_1 rfl rfl ?_
              refine o_load agg2 (by first | exact Nth.z | exact .s .z | exact .s (.s .z) | exact .s (.s (.s .z)) | exact .s (.s (.s (.s .z))) | exact .s (.s (.s (.s (.s .z)))) | exact .s (.s (.s (.s (.s (.s .z))))) | exact .s (.s (.s (.s (.s (.s (.s .z))))))) rfl rfl rfl ?_
              refine o_eqlI rfl rfl rfl ?_
              exact triL_nil (Piece.mk rfl rfl (.cons rfl (.nil _)) (fun _ h => h))
            exact triL_nil (Piece.mk rfl rfl (.nil _) (fun _ h => h))
          refine o_assign rfl rfl ?_
          refine triL_nil ?_
          refine thenQ_normal ?_
          refine tri_ret ?_
          refine blockQ_ret ?_
          refine thenQ_ret ?_
          refine end1 rfl rfl ?_
          exact fun w1 hw1 => ⟨congrArg (fun b => Ending.returned (.bool b)) (by simp [may, val_dec, *]), hw1.chg⟩
        · skip
          refine tri_skip ?_
          refine blockQ_normal ?_
          refine thenQ_normal ?_
          refine tri_seq ?_
          refine tri_slots [] (.nil _) ?_
          refine tri_region ?_
          refine o_assign rfl rfl ?_
          refine triL_nil ?_
          refine thenQ_normal ?_
          refine tri_ret ?_
          refine end1 rfl rfl ?_
          exact fun w1 hw1 => ⟨congrArg (fun b => Ending.returned (.bool b)) (by simp [may, val_dec, *]), hw1.chg⟩

theorem mayR (v : Val) (w : World) (f : fit v) : Calls Tryd.prog 15 #[aggV v] w (Pure w (.bool (may v))) := by
  refine calls_tri (args := [aggV v]) (lent := []) (H := []) Tryd.func15 rfl Tryd.ntmps15 rfl (Sat.start _ _ _ _) ?_
  refine (show Tri _ [(0, _)] _ _ _ from ?_)
  have hs := f.2
  have e64 : decide ((v.s.length : Int) ≤ 64) = decide (v.s.length ≤ 64) := le_dec _ 64
  have e01 : (decide (0 ≤ v.n) && decide (v.n ≤ 1)) = (decide (v.n = 0) || decide (v.n = 1)) := by rw [← Bool.decide_and, ← Bool.decide_or]; exact decide_eq_decide.2 (by omega)
  refine tri_seq ?_
  refine tri_region ?_
  refine o_box (Val.cs _) rfl rfl rfl (fun b1 => ?_)
  refine o_assign rfl rfl ?_
  refine triL_nil ?_
  refine thenQ_normal ?_
  refine tri_seq ?_
  refine tri_seq ?_
  refine tri_region ?_
  refine o_field fo23_0 rfl rfl ?_
  refine o_load agg3 (by first | exact Nth.z | exact .s .z | exact .s (.s .z) | exact .s (.s (.s .z)) | exact .s (.s (.s (.s .z))) | exact .s (.s (.s (.s (.s .z)))) | exact .s (.s (.s (.s (.s (.s .z))))) | exact .s (.s (.s (.s (.s (.s (.s .z))))))) rfl rfl rfl ?_
  refine o_eqlI rfl rfl rfl ?_
  refine triL_nil ?_
  refine thenQ_normal ?_
  refine tri_if rfl (fun h1 => ?_) (fun h1 => ?_)
  · skip
    refine tri_seq ?_
    refine tri_slots [(1, _)] (.cons rfl (.nil _)) ?_
    refine tri_region ?_
    refine o_field fo23_1 rfl rfl ?_
    refine o_load agg2 (by first | exact Nth.z | exact .s .z | exact .s (.s .z) | exact .s (.s (.s .z)) | exact .s (.s (.s (.s .z))) | exact .s (.s (.s (.s (.s .z)))) | exact .s (.s (.s (.s (.s (.s .z))))) | exact .s (.s (.s (.s (.s (.s (.s .z))))))) rfl rfl rfl ?_
    refine o_eqlI rfl rfl rfl ?_
    refine o_move rfl rfl ?_
    refine' triL_and [_, _, _] [] (dj := 9) (dr := 12) rfl rfl (fun g1 => ?_) ⟨_, rfl, rfl, rfl, (.nil _)⟩ rfl ?_
    rotate_left
    · skip
      refine o_field fo23_2 rfl rfl ?_
      refine o_load agg9 (by first | exact Nth.z | exact .s .z | exact .s (.s .z) | exact .s (.s (.s .z)) | exact .s (.s (.s (.s .z))) | exact .s (.s (.s (.s (.s .z)))) | exact .s (.s (.s (.s (.s (.s .z))))) | exact .s (.s (.s (.s (.s (.s (.s .z))))))) rfl rfl rfl ?_
      refine o_eqlT rfl rfl rfl ?_
      exact triL_nil (Piece.mk rfl rfl (.nil _) (fun _ h => h))
    refine o_assign rfl rfl ?_
    refine triL_nil ?_
    refine thenQ_normal ?_
    refine tri_ret ?_
    refine thenQ_ret ?_
    refine end1 rfl rfl ?_
    exact fun w1 hw1 => ⟨congrArg (fun b => Ending.returned (.bool b)) (by simp [may, val_dec, *] <;> simp only [Bool.and_assoc, e01]), hw1.chg⟩
  · skip
    refine tri_skip ?_
    refine thenQ_normal ?_
    refine tri_seq ?_
    refine tri_seq ?_
    refine tri_slots [(1, _)] (.cons rfl (.nil _)) ?_
    refine tri_region ?_
    refine o_field fo23_0 rfl rfl ?_
    refine o_load agg3 (by first | exact Nth.z | exact .s .z | exact .s (.s .z) | exact .s (.s (.s .z)) | exact .s (.s (.s (.s .z))) | exact .s (.s (.s (.s (.s .z)))) | exact .s (.s (.s (.s (.s (.s .z))))) | exact .s (.s (.s (.s (.s (.s (.s .z))))))) rfl rfl rfl ?_
    refine o_eqlI rfl rfl rfl ?_
    refine triL_nil ?_
    refine thenQ_normal ?_
    refine tri_if rfl (fun h2 => ?_) (fun h2 => ?_)
    · skip
      refine tri_seq ?_
      refine tri_region ?_
      refine o_field fo23_2 rfl rfl ?_
      refine o_load agg9 (by first | exact Nth.z | exact .s .z | exact .s (.s .z) | exact .s (.s (.s .z)) | exact .s (.s (.s (.s .z))) | exact .s (.s (.s (.s (.s .z)))) | exact .s (.s (.s (.s (.s (.s .z))))) | exact .s (.s (.s (.s (.s (.s (.s .z))))))) rfl rfl rfl ?_
      refine o_eqlT rfl rfl rfl ?_
      refine o_assign rfl rfl ?_
      refine triL_nil ?_
      refine thenQ_normal ?_
      refine tri_ret ?_
      refine thenQ_ret ?_
      refine end1 rfl rfl ?_
      exact fun w1 hw1 => ⟨congrArg (fun b => Ending.returned (.bool b)) (by simp [may, val_dec, *] <;> simp only [Bool.and_assoc, e01]), hw1.chg⟩
    · skip
      refine tri_skip ?_
      refine thenQ_normal ?_
      refine tri_seq ?_
      refine tri_seq ?_
      refine tri_region ?_
      refine o_field fo23_0 rfl rfl ?_
      refine o_load agg3 (by first | exact Nth.z | exact .s .z | exact .s (.s .z) | exact .s (.s (.s .z)) | exact .s (.s (.s (.s .z))) | exact .s (.s (.s (.s (.s .z)))) | exact .s (.s (.s (.s (.s (.s .z))))) | exact .s (.s (.s (.s (.s (.s (.s .z))))))) rfl rfl rfl ?_
      refine o_eqlI rfl rfl rfl ?_
      refine triL_nil ?_
      refine thenQ_normal ?_
      refine tri_if rfl (fun h3 => ?_) (fun h3 => ?_)
      · skip
        refine tri_seq ?_
        refine tri_slots [(1, _)] (.cons rfl (.nil _)) ?_
        refine tri_region ?_
        refine o_field fo23_1 rfl rfl ?_
        refine o_load agg2 (by first | exact Nth.z | exact .s .z | exact .s (.s .z) | exact .s (.s (.s .z)) | exact .s (.s (.s (.s .z))) | exact .s (.s (.s (.s (.s .z)))) | exact .s (.s (.s (.s (.s (.s .z))))) | exact .s (.s (.s (.s (.s (.s (.s .z))))))) rfl rfl rfl ?_
        refine o_eqlI rfl rfl rfl ?_
        refine o_move rfl rfl ?_
        refine' triL_and [_, _, _, _] [] (dj := 26) (dr := 30) rfl rfl (fun g2 => ?_) ⟨_, rfl, rfl, rfl, (.nil _)⟩ rfl ?_
        rotate_left
        · skip
          refine o_field fo23_2 rfl rfl ?_
          refine o_load agg9 (by first | exact Nth.z | exact .s .z | exact .s (.s .z) | exact .s (.s (.s .z)) | exact .s (.s (.s (.s .z))) | exact .s (.s (.s (.s (.s .z)))) | exact .s (.s (.s (.s (.s (.s .z))))) | exact .s (.s (.s (.s (.s (.s (.s .z))))))) rfl rfl rfl ?_
          refine o_lenB Tryd.underlying9 rfl rfl ?_
          refine o_leq rfl rfl rfl ?_
          exact triL_nil (Piece.mk rfl rfl (.nil _) (fun _ h => h))
        refine o_assign rfl rfl ?_
        refine triL_nil ?_
        refine thenQ_normal ?_
        refine tri_ret ?_
        refine thenQ_ret ?_
        refine end1 rfl rfl ?_
        exact fun w1 hw1 => ⟨congrArg (fun b => Ending.returned (.bool b)) (by simp [may, val_dec, *] <;> simp only [Bool.and_assoc, e01]), hw1.chg⟩
      · skip
        refine tri_skip ?_
        refine thenQ_normal ?_
        refine tri_seq ?_
        refine tri_slots [(1, _)] (.cons rfl (.nil _)) ?_
        refine tri_region ?_
        refine o_field fo23_0 rfl rfl ?_
        refine o_load agg3 (by first | exact Nth.z | exact .s .z | exact .s (.s .z) | exact .s (.s (.s .z)) | exact .s (.s (.s (.s .z))) | exact .s (.s (.s (.s (.s .z)))) | exact .s (.s (.s (.s (.s (.s .z))))) | exact .s (.s (.s (.s (.s (.s (.s .z))))))) rfl rfl rfl ?_
        refine o_eqlI rfl rfl rfl ?_
        refine o_move rfl rfl ?_
        refine' triL_and [_, _, _] [(1, _)] (dj := 35) (dr := 38) rfl rfl (fun g3 => ?_) ⟨_, rfl, rfl, rfl, (.cons rfl (.nil _))⟩ rfl ?_
        rotate_left
        · skip
          refine o_field fo23_2 rfl rfl ?_
          refine o_load agg9 (by first | exact Nth.z | exact .s .z | exact .s (.s .z) | exact .s (.s (.s .z)) | exact .s (.s (.s (.s .z))) | exact .s (.s (.s (.s (.s .z)))) | exact .s (.s (.s (.s (.s (.s .z))))) | exact .s (.s (.s (.s (.s (.s (.s .z))))))) rfl rfl rfl ?_
          refine o_eqlT rfl rfl rfl ?_
          exact triL_nil (Piece.mk rfl rfl (.cons rfl (.nil _)) (fun _ h => h))
        refine o_move rfl rfl ?_
        refine' triL_and [_, _, _] [(1, _)] (dj := 40) (dr := 43) rfl rfl (fun g4 => ?_) ⟨_, rfl, rfl, rfl, (.cons rfl (.nil _))⟩ rfl ?_
        rotate_left
        · skip
          refine o_field fo23_1 rfl rfl ?_
          refine o_load agg2 (by first | exact Nth.z | exact .s .z | exact .s (.s .z) | exact .s (.s (.s .z)) | exact .s (.s (.s (.s .z))) | exact .s (.s (.s (.s (.s .z)))) | exact .s (.s (.s (.s (.s (.s .z))))) | exact .s (.s (.s (.s (.s (.s (.s .z))))))) rfl rfl rfl ?_
          refine o_geq rfl rfl rfl ?_
          exact triL_nil (Piece.mk rfl rfl (.cons rfl (.nil _)) (fun _ h => h))
        refine o_move rfl rfl ?_
        refine' triL_and [_, _, _] [] (dj := 45) (dr := 48) rfl rfl (fun g5 => ?_) ⟨_, rfl, rfl, rfl, (.nil _)⟩ rfl ?_
        rotate_left
        · skip
          refine o_field fo23_1 rfl rfl ?_
          refine o_load agg2 (by first | exact Nth.z | exact .s .z | exact .s (.s .z) | exact .s (.s (.s .z)) | exact .s (.s (.s (.s .z))) | exact .s (.s (.s (.s (.s .z)))) | exact .s (.s (.s (.s (.s (.s .z))))) | exact .s (.s (.s (.s (.s (.s (.s .z))))))) rfl rfl rfl ?_
          refine o_leq rfl rfl rfl ?_
          exact triL_nil (Piece.mk rfl rfl (.nil _) (fun _ h => h))
        refine o_assign rfl rfl ?_
        refine triL_nil ?_
        refine thenQ_normal ?_
        refine tri_ret ?_
        refine end1 rfl rfl ?_
        exact fun w1 hw1 => ⟨congrArg (fun b => Ending.returned (.bool b)) (by simp [may, val_dec, *] <;> simp only [Bool.and_assoc, e01]), hw1.chg⟩

def rk (k : Int) : Int := if k = 2 then 3 else if k = 1 then 2 else if k = 3 then 1 else 0
theorem may_k {v : Val} (h : may v = true) : v.k = 0 ∨ v.k = 1 ∨ v.k = 2 ∨ v.k = 3 := by
  rcases may_cases h with rfl | rfl | rfl | ⟨n, rfl⟩ | ⟨s, rfl, _⟩ <;> simp
theorem rk_place {v : Val} (h : may v = true) : rk v.k = place v.k := by
  rcases may_k h with e | e | e | e <;> simp [e, rk, place]
theorem place_inj {a b : Val} (ha : may a = true) (hb : may b = true) (h : a.k ≠ b.k) : place a.k ≠ place b.k := by
  rcases may_k ha with e | e | e | e <;> rcases may_k hb with e' | e' | e' | e' <;> simp [e, e', place] at h ⊢

theorem rankK (k : Int) (w : World)  : Calls Tryd.prog 74 #[.int .i64 k] w (Pure w (.int .i64 (rk k))) := by
  refine calls_tri (args := [.int .i64 k]) (lent := []) (H := []) Tryd.func74 rfl Tryd.ntmps74 rfl (Sat.start _ _ _ _) ?_
  refine (show Tri _ [(0, _)] _ _ _ from ?_)
  refine tri_seq ?_
  refine tri_region ?_
  refine o_assign rfl rfl ?_
  refine triL_nil ?_
  refine thenQ_normal ?_
  refine tri_seq ?_
  refine tri_region ?_
  refine o_assign rfl rfl ?_
  refine triL_nil ?_
  refine thenQ_normal ?_
  refine tri_seq ?_
  refine tri_seq ?_
  refine tri_region ?_
  refine o_move rfl rfl ?_
  refine triL_nil ?_
  refine thenQ_normal ?_
  refine tri_block ?_
  refine tri_seq ?_
  refine tri_block ?_
  refine tri_seq ?_
  refine tri_block ?_
  refine tri_seq ?_
  refine tri_block ?_
  refine tri_seq ?_
  refine tri_seq ?_
  refine tri_seq ?_
  refine tri_region ?_
  refine o_eqlI rfl rfl rfl ?_
  refine o_assign rfl rfl ?_
  refine triL_nil ?_
  refine thenQ_normal ?_
  refine tri_if rfl (fun h1 => ?_) (fun h1 => ?_)
  · skip
    refine tri_exit ?_
    refine thenQ_exit ?_
    refine thenQ_exit ?_
    refine blockQ_here ?_
    refine thenQ_normal ?_
    refine tri_slots [(3, _)] (.cons rfl (.nil _)) ?_
    refine tri_region ?_
    refine o_move rfl rfl ?_
    refine o_addN rfl rfl rfl (by omega) ?_
    refine o_assign rfl rfl ?_
    refine triL_nil ?_
    refine blockQ_normal ?_
    refine thenQ_normal ?_
    refine tri_region ?_
    refine o_move rfl rfl ?_
    refine o_addN rfl rfl rfl (by omega) ?_
    refine o_assign rfl rfl ?_
    refine triL_nil ?_
    refine blockQ_normal ?_
    refine thenQ_normal ?_
    refine tri_seq ?_
    refine tri_slots [(3, _)] (.cons rfl (.nil _)) ?_
    refine tri_region ?_
    refine o_move rfl rfl ?_
    refine o_addN rfl rfl rfl (by omega) ?_
    refine o_assign rfl rfl ?_
    refine triL_nil ?_
    refine thenQ_normal ?_
    refine tri_exit ?_
    refine blockQ_here ?_
    refine thenQ_normal ?_
    refine tri_seq ?_
    refine tri_region ?_
    refine o_move rfl rfl ?_
    refine o_assign rfl rfl ?_
    refine triL_nil ?_
    refine thenQ_normal ?_
    refine tri_ret ?_
    refine end1 rfl rfl ?_
    exact fun w1 hw1 => ⟨congrArg (fun b => Ending.returned (.int .i64 b)) (by simp [rk, *]), hw1.chg⟩
  · skip
    refine tri_skip ?_
    refine thenQ_normal ?_
    refine tri_seq ?_
    refine tri_seq ?_
    refine tri_slots [(4, _), (3, _)] (.cons rfl (.cons rfl (.nil _))) ?_
    refine tri_region ?_
    refine o_eqlI rfl rfl rfl ?_
    refine o_assign rfl rfl ?_
    refine triL_nil ?_
    refine thenQ_normal ?_
    refine tri_if rfl (fun h2 => ?_) (fun h2 => ?_)
    · skip
      refine tri_exit ?_
      refine thenQ_exit ?_
      refine thenQ_exit ?_
      refine blockQ_other rfl ?_
      refine thenQ_exit ?_
      refine blockQ_here ?_
      refine thenQ_normal ?_
      refine tri_region ?_
      refine o_move rfl rfl ?_
      refine o_addN rfl rfl rfl (by omega) ?_
      refine o_assign rfl rfl ?_
      refine triL_nil ?_
      refine blockQ_normal ?_
      refine thenQ_normal ?_
      refine tri_seq ?_
      refine tri_slots [(3, _)] (.cons rfl (.nil _)) ?_
      refine tri_region ?_
      refine o_move rfl rfl ?_
      refine o_addN rfl rfl rfl (by omega) ?_
      refine o_assign rfl rfl ?_
      refine triL_nil ?_
      refine thenQ_normal ?_
      refine tri_exit ?_
      refine blockQ_here ?_
      refine thenQ_normal ?_
      refine tri_seq ?_
      refine tri_region ?_
      refine o_move rfl rfl ?_
      refine o_assign rfl rfl ?_
      refine triL_nil ?_
      refine thenQ_normal ?_
      refine tri_ret ?_
      refine end1 rfl rfl ?_
      exact fun w1 hw1 => ⟨congrArg (fun b => Ending.returned (.int .i64 b)) (by simp [rk, *]), hw1.chg⟩
    · skip
      refine tri_skip ?_
      refine thenQ_normal ?_
      refine tri_seq ?_
      refine tri_region ?_
      refine o_eqlI rfl rfl rfl ?_
      refine o_assign rfl rfl ?_
      refine triL_nil ?_
      refine thenQ_normal ?_
      refine tri_if rfl (fun h3 => ?_) (fun h3 => ?_)
      · skip
        refine tri_exit ?_
        refine thenQ_exit ?_
        refine blockQ_other rfl ?_
        refine thenQ_exit ?_
        refine blockQ_other rfl ?_
        refine thenQ_exit ?_
        refine blockQ_here ?_
        refine thenQ_normal ?_
        refine tri_seq ?_
        refine tri_slots [(3, _)] (.cons rfl (.nil _)) ?_
        refine tri_region ?_
        refine o_move rfl rfl ?_
        refine o_addN rfl rfl rfl (by omega) ?_
        refine o_assign rfl rfl ?_
        refine triL_nil ?_
        refine thenQ_normal ?_
        refine tri_exit ?_
        refine blockQ_here ?_
        refine thenQ_normal ?_
        refine tri_seq ?_
        refine tri_region ?_
        refine o_move rfl rfl ?_
        refine o_assign rfl rfl ?_
        refine triL_nil ?_
        refine thenQ_normal ?_
        refine tri_ret ?_
        refine end1 rfl rfl ?_
        exact fun w1 hw1 => ⟨congrArg (fun b => Ending.returned (.int .i64 b)) (by simp [rk, *]), hw1.chg⟩
      · skip
        refine tri_skip ?_
        refine thenQ_normal ?_
        refine tri_exit ?_
        refine blockQ_other rfl ?_
        refine thenQ_exit ?_
        refine blockQ_other rfl ?_
        refine thenQ_exit ?_
        refine blockQ_other rfl ?_
        refine thenQ_exit ?_
        refine blockQ_here ?_
        refine thenQ_normal ?_
        refine tri_seq ?_
        refine tri_slots [(3, _)] (.cons rfl (.nil _)) ?_
        refine tri_region ?_
        refine o_move rfl rfl ?_
        refine o_assign rfl rfl ?_
        refine triL_nil ?_
        refine thenQ_normal ?_
        refine tri_ret ?_
        refine end1 rfl rfl ?_
        exact fun w1 hw1 => ⟨congrArg (fun b => Ending.returned (.int .i64 b)) (by simp [rk, *]), hw1.chg⟩

theorem orderK (a b : Val) (w : World) (ha : may a = true) (hb : may b = true) : Calls Tryd.prog 45 #[aggV a, aggV b] w (Pure w (.int .i64 (cmpV a b))) := by
  refine calls_tri (args := [aggV a, aggV b]) (lent := []) (H := []) Tryd.func45 rfl Tryd.ntmps45 rfl (Sat.start _ _ _ _) ?_
  refine (show Tri _ [(0, _), (1, _)] _ _ _ from ?_)
  refine tri_seq ?_
  refine tri_region ?_
  refine o_box (Val.cs _) rfl rfl rfl (fun b2 => ?_)
  refine o_box (Val.cs _) rfl rfl rfl (fun b3 => ?_)
  refine o_assign rfl rfl ?_
  refine triL_nil ?_
  refine thenQ_normal ?_
  refine tri_seq ?_
  refine tri_seq ?_
  refine tri_region ?_
  refine o_field fo23_0 rfl rfl ?_
  refine o_load agg3 (by first | exact Nth.z | exact .s .z | exact .s (.s .z) | exact .s (.s (.s .z)) | exact .s (.s (.s (.s .z))) | exact .s (.s (.s (.s (.s .z)))) | exact .s (.s (.s (.s (.s (.s .z))))) | exact .s (.s (.s (.s (.s (.s (.s .z))))))) rfl rfl rfl ?_
  refine o_field fo23_0 rfl rfl ?_
  refine o_load agg3 (by first | exact Nth.z | exact .s .z | exact .s (.s .z) | exact .s (.s (.s .z)) | exact .s (.s (.s (.s .z))) | exact .s (.s (.s (.s (.s .z)))) | exact .s (.s (.s (.s (.s (.s .z))))) | exact .s (.s (.s (.s (.s (.s (.s .z))))))) rfl rfl rfl ?_
  refine o_neqI rfl rfl rfl ?_
  refine triL_nil ?_
  refine thenQ_normal ?_
  refine tri_if rfl (fun h0 => ?_) (fun h0 => ?_)
  · skip
    have hp := place_inj ha hb h0
    refine tri_seq ?_
    refine tri_seq ?_
    refine tri_slots [(3, _), (2, _)] (.cons rfl (.cons rfl (.nil _))) ?_
    refine tri_mix (_) [(0, true), (1, true), (2, true), (3, true), (4, true), (5, false), (6, false)] [5, 6] (by kernel_rfl) (by kernel_rfl) (fun _ h => h) ?_
    refine mix_fix rfl ?_
    refine o_field fo23_0 rfl rfl ?_
    refine triL_nil ⟨rfl, ?_⟩
    refine mix_fix rfl ?_
    refine o_load agg3 (by first | exact Nth.z | exact .s .z | exact .s (.s .z) | exact .s (.s (.s .z)) | exact .s (.s (.s (.s .z))) | exact .s (.s (.s (.s (.s .z)))) | exact .s (.s (.s (.s (.s (.s .z))))) | exact .s (.s (.s (.s (.s (.s (.s .z))))))) rfl rfl rfl ?_
    refine triL_nil ⟨rfl, ?_⟩
    refine mix_fix rfl ?_
    refine o_callP (first := []) (cap := []) rfl rfl rfl Tryd.call74 (fun w1 h1 => rankK a.k w1) ?_
    refine triL_nil ⟨rfl, ?_⟩
    refine mix_fix rfl ?_
    refine o_field fo23_0 rfl rfl ?_
    refine triL_nil ⟨rfl, ?_⟩
    refine mix_fix rfl ?_
    refine o_load agg3 (by first | exact Nth.z | exact .s .z | exact .s (.s .z) | exact .s (.s (.s .z)) | exact .s (.s (.s (.s .z))) | exact .s (.s (.s (.s (.s .z)))) | exact .s (.s (.s (.s (.s (.s .z))))) | exact .s (.s (.s (.s (.s (.s (.s .z))))))) rfl rfl rfl ?_
    refine triL_nil ⟨rfl, ?_⟩
    refine mix_rest [5, 6] [_, _] rfl rfl ?_
    refine o_callP (first := []) (cap := []) rfl rfl rfl Tryd.call74 (fun w1 h1 => rankK b.k w1) ?_
    refine o_lss rfl rfl rfl ?_
    refine triL_nil ⟨rfl, ?_⟩
    refine thenQ_normal ?_
    refine tri_if rfl (fun h1 => ?_) (fun h1 => ?_)
    · skip
      rw [rk_place ha, rk_place hb] at h1
      refine tri_seq ?_
      refine tri_slots [] (.nil _) ?_
      refine tri_region ?_
      refine o_assign rfl rfl ?_
      refine triL_nil ?_
      refine thenQ_normal ?_
      refine tri_ret ?_
      refine thenQ_ret ?_
      refine thenQ_ret ?_
      refine end1 rfl rfl ?_
      exact fun w1 hw1 => ⟨congrArg (fun b => Ending.returned (.int .i64 b)) (by unfold cmpV; rw [if_pos h1]), hw1.chg⟩
    · skip
      rw [rk_place ha, rk_place hb] at h1
      refine tri_skip ?_
      refine thenQ_normal ?_
      refine tri_seq ?_
      refine tri_slots [] (.nil _) ?_
      refine tri_region ?_
      refine o_assign rfl rfl ?_
      refine triL_nil ?_
      refine thenQ_normal ?_
      refine tri_ret ?_
      refine thenQ_ret ?_
      refine end1 rfl rfl ?_
      exact fun w1 hw1 => ⟨congrArg (fun b => Ending.returned (.int .i64 b)) (by unfold cmpV; rw [if_neg h1, if_pos (by omega)]), hw1.chg⟩
  · skip
    have h0 : a.k = b.k := Decidable.not_not.1 h0
    refine tri_skip ?_
    refine thenQ_normal ?_
    refine tri_seq ?_
    refine tri_seq ?_
    refine tri_slots [(3, _), (2, _)] (.cons rfl (.cons rfl (.nil _))) ?_
    refine tri_region ?_
    refine o_field fo23_0 rfl rfl ?_
    refine o_load agg3 (by first | exact Nth.z | exact .s .z | exact .s (.s .z) | exact .s (.s (.s .z)) | exact .s (.s (.s (.s .z))) | exact .s (.s (.s (.s (.s .z)))) | exact .s (.s (.s (.s (.s (.s .z))))) | exact .s (.s (.s (.s (.s (.s (.s .z))))))) rfl rfl rfl ?_
    refine o_eqlI rfl rfl rfl ?_
    refine triL_nil ?_
    refine thenQ_normal ?_
    refine tri_if rfl (fun h2 => ?_) (fun h2 => ?_)
    · skip
      refine tri_seq ?_
      refine tri_region ?_
      refine o_field fo23_2 rfl rfl ?_
      refine o_load agg9 (by first | exact Nth.z | exact .s .z | exact .s (.s .z) | exact .s (.s (.s .z)) | exact .s (.s (.s (.s .z))) | exact .s (.s (.s (.s (.s .z)))) | exact .s (.s (.s (.s (.s (.s .z))))) | exact .s (.s (.s (.s (.s (.s (.s .z))))))) rfl rfl rfl ?_
      refine o_field fo23_2 rfl rfl ?_
      refine o_load agg9 (by first | exact Nth.z | exact .s .z | exact .s (.s .z) | exact .s (.s (.s .z)) | exact .s (.s (.s (.s .z))) | exact .s (.s (.s (.s (.s .z)))) | exact .s (.s (.s (.s (.s (.s .z))))) | exact .s (.s (.s (.s (.s (.s (.s .z))))))) rfl rfl rfl ?_
      refine o_callP (first := []) (cap := []) rfl rfl rfl Tryd.call75 (fun w1 h1 => lib_compare a.s b.s w1) ?_
      refine o_assign rfl rfl ?_
      refine triL_nil ?_
      refine thenQ_normal ?_
      refine tri_ret ?_
      refine thenQ_ret ?_
      refine end1 rfl rfl ?_
      exact fun w1 hw1 => ⟨congrArg (fun b => Ending.returned (.int .i64 b)) (by unfold cmpV; rw [h0, if_neg (by omega), if_neg (by omega), if_pos (by rw [← h0]; exact h2)]), hw1.chg⟩
    · skip
      refine tri_skip ?_
      refine thenQ_normal ?_
      refine tri_seq ?_
      refine tri_seq ?_
      refine tri_region ?_
      refine o_field fo23_1 rfl rfl ?_
      refine o_load agg2 (by first | exact Nth.z | exact .s .z | exact .s (.s .z) | exact .s (.s (.s .z)) | exact .s (.s (.s (.s .z))) | exact .s (.s (.s (.s (.s .z)))) | exact .s (.s (.s (.s (.s (.s .z))))) | exact .s (.s (.s (.s (.s (.s (.s .z))))))) rfl rfl rfl ?_
      refine o_field fo23_1 rfl rfl ?_
      refine o_load agg2 (by first | exact Nth.z | exact .s .z | exact .s (.s .z) | exact .s (.s (.s .z)) | exact .s (.s (.s (.s .z))) | exact .s (.s (.s (.s (.s .z)))) | exact .s (.s (.s (.s (.s (.s .z))))) | exact .s (.s (.s (.s (.s (.s (.s .z))))))) rfl rfl rfl ?_
      refine o_lss rfl rfl rfl ?_
      refine triL_nil ?_
      refine thenQ_normal ?_
      refine tri_if rfl (fun h3 => ?_) (fun h3 => ?_)
      · skip
        refine tri_seq ?_
        refine tri_slots [] (.nil _) ?_
        refine tri_region ?_
        refine o_assign rfl rfl ?_
        refine triL_nil ?_
        refine thenQ_normal ?_
        refine tri_ret ?_
        refine thenQ_ret ?_
        refine end1 rfl rfl ?_
        exact fun w1 hw1 => ⟨congrArg (fun b => Ending.returned (.int .i64 b)) (by unfold cmpV; rw [h0, if_neg (by omega), if_neg (by omega), if_neg (by rw [← h0]; exact h2), if_pos h3]), hw1.chg⟩
      · skip
        refine tri_skip ?_
        refine thenQ_normal ?_
        refine tri_seq ?_
        refine tri_seq ?_
        refine tri_slots [(3, _), (2, _)] (.cons rfl (.cons rfl (.nil _))) ?_
        refine tri_region ?_
        refine o_field fo23_1 rfl rfl ?_
        refine o_load agg2 (by first | exact Nth.z | exact .s .z | exact .s (.s .z) | exact .s (.s (.s .z)) | exact .s (.s (.s (.s .z))) | exact .s (.s (.s (.s (.s .z)))) | exact .s (.s (.s (.s (.s (.s .z))))) | exact .s (.s (.s (.s (.s (.s (.s .z))))))) rfl rfl rfl ?_
        refine o_field fo23_1 rfl rfl ?_
        refine o_load agg2 (by first | exact Nth.z | exact .s .z | exact .s (.s .z) | exact .s (.s (.s .z)) | exact .s (.s (.s (.s .z))) | exact .s (.s (.s (.s (.s .z)))) | exact .s (.s (.s (.s (.s (.s .z))))) | exact .s (.s (.s (.s (.s (.s (.s .z))))))) rfl rfl rfl ?_
        refine o_gtr rfl rfl rfl ?_
        refine triL_nil ?_
        refine thenQ_normal ?_
        refine tri_if rfl (fun h4 => ?_) (fun h4 => ?_)
        · skip
          refine tri_seq ?_
          refine tri_slots [] (.nil _) ?_
          refine tri_region ?_
          refine o_assign rfl rfl ?_
          refine triL_nil ?_
          refine thenQ_normal ?_
          refine tri_ret ?_
          refine thenQ_ret ?_
          refine end1 rfl rfl ?_
          exact fun w1 hw1 => ⟨congrArg (fun b => Ending.returned (.int .i64 b)) (by unfold cmpV; rw [h0, if_neg (by omega), if_neg (by omega), if_neg (by rw [← h0]; exact h2), if_neg h3, if_pos h4]), hw1.chg⟩
        · skip
          refine tri_skip ?_
          refine thenQ_normal ?_
          refine tri_seq ?_
          refine tri_slots [] (.nil _) ?_
          refine tri_region ?_
          refine o_assign rfl rfl ?_
          refine triL_nil ?_
          refine thenQ_normal ?_
          refine tri_ret ?_
          refine end1 rfl rfl ?_
          exact fun w1 hw1 => ⟨congrArg (fun b => Ending.returned (.int .i64 b)) (by unfold cmpV; rw [h0, if_neg (by omega), if_neg (by omega), if_neg (by rw [← h0]; exact h2), if_neg h3, if_neg h4]), hw1.chg⟩

theorem yesK (b : Bool) (w : World)  : Calls Tryd.prog 63 #[.bool b] w (Pure w (aggV (truth b))) := by
  refine calls_tri (args := [.bool b]) (lent := []) (H := []) Tryd.func63 rfl Tryd.ntmps63 rfl (Sat.start _ _ _ _) ?_
  refine (show Tri _ [(0, _)] _ _ _ from ?_)
  refine tri_seq ?_
  refine tri_region ?_
  refine o_alloc (Val.cs Val.zero) rfl zero23 rfl (fun b2 => ?_)
  refine triL_nil ?_
  refine thenQ_normal ?_
  refine tri_seq ?_
  refine tri_seq ?_
  refine tri_region ?_
  refine o_move rfl rfl ?_
  refine triL_nil ?_
  refine thenQ_normal ?_
  refine tri_cond rfl (fun h => ?_) (fun h => ?_)
  · skip
    refine tri_seq ?_
    refine tri_region ?_
    refine o_build (bval23_0_1 _ _) rfl rfl ?_
    refine o_storeBV sz23 (by first | exact Nth.z | exact .s .z | exact .s (.s .z) | exact .s (.s (.s .z)) | exact .s (.s (.s (.s .z))) | exact .s (.s (.s (.s (.s .z)))) | exact .s (.s (.s (.s (.s (.s .z))))) | exact .s (.s (.s (.s (.s (.s (.s .z))))))) rfl rfl rfl ?_
    refine triL_nil ?_
    refine thenQ_normal ?_
    refine tri_ret ?_
    refine thenQ_ret ?_
    refine endC1 rfl agg23 sz23 (by first | exact Nth.z | exact .s .z | exact .s (.s .z) | exact .s (.s (.s .z)) | exact .s (.s (.s (.s .z))) | exact .s (.s (.s (.s (.s .z)))) | exact .s (.s (.s (.s (.s (.s .z))))) | exact .s (.s (.s (.s (.s (.s (.s .z))))))) rfl rfl ?_
    exact fun w1 hw1 => ⟨congrArg (fun v : Val => Ending.returned (aggV v)) (by simp [truth, h]), hw1.chg⟩
  · skip
    refine tri_skip ?_
    refine thenQ_normal ?_
    refine tri_seq ?_
    refine tri_region ?_
    refine o_build (bval23_0 _) rfl rfl ?_
    refine o_storeBV sz23 (by first | exact Nth.z | exact .s .z | exact .s (.s .z) | exact .s (.s (.s .z)) | exact .s (.s (.s (.s .z))) | exact .s (.s (.s (.s (.s .z)))) | exact .s (.s (.s (.s (.s (.s .z))))) | exact .s (.s (.s (.s (.s (.s (.s .z))))))) rfl rfl rfl ?_
    refine triL_nil ?_
    refine thenQ_normal ?_
    refine tri_ret ?_
    refine endC1 rfl agg23 sz23 (by first | exact Nth.z | exact .s .z | exact .s (.s .z) | exact .s (.s (.s .z)) | exact .s (.s (.s (.s .z))) | exact .s (.s (.s (.s (.s .z)))) | exact .s (.s (.s (.s (.s (.s .z))))) | exact .s (.s (.s (.s (.s (.s (.s .z))))))) rfl rfl ?_
    exact fun w1 hw1 => ⟨congrArg (fun v : Val => Ending.returned (aggV v)) (by simp [truth, h]), hw1.chg⟩

theorem yesR (b : Bool) (w : World)  : Calls Tryd.prog 62 #[.bool b] w (Pure w (aggV (truth b))) := by
  refine calls_tri (args := [.bool b]) (lent := []) (H := []) Tryd.func62 rfl Tryd.ntmps62 rfl (Sat.start _ _ _ _) ?_
  refine (show Tri _ [(0, _)] _ _ _ from ?_)
  refine tri_seq ?_
  refine tri_region ?_
  refine o_alloc (Val.cs Val.zero) rfl zero23 rfl (fun b2 => ?_)
  refine triL_nil ?_
  refine thenQ_normal ?_
  refine tri_seq ?_
  refine tri_seq ?_
  refine tri_region ?_
  refine o_move rfl rfl ?_
  refine triL_nil ?_
  refine thenQ_normal ?_
  refine tri_cond rfl (fun h => ?_) (fun h => ?_)
  · skip
    refine tri_seq ?_
    refine tri_region ?_
    refine o_build (bval23_0_1 _ _) rfl rfl ?_
    refine o_storeBV sz23 (by first | exact Nth.z | exact .s .z | exact .s (.s .z) | exact .s (.s (.s .z)) | exact .s (.s (.s (.s .z))) | exact .s (.s (.s (.s (.s .z)))) | exact .s (.s (.s (.s (.s (.s .z))))) | exact .s (.s (.s (.s (.s (.s (.s .z))))))) rfl rfl rfl ?_
    refine triL_nil ?_
    refine thenQ_normal ?_
    refine tri_ret ?_
    refine thenQ_ret ?_
    refine endC1 rfl agg23 sz23 (by first | exact Nth.z | exact .s .z | exact .s (.s .z) | exact .s (.s (.s .z)) | exact .s (.s (.s (.s .z))) | exact .s (.s (.s (.s (.s .z)))) | exact .s (.s (.s (.s (.s (.s .z))))) | exact .s (.s (.s (.s (.s (.s (.s .z))))))) rfl rfl ?_
    exact fun w1 hw1 => ⟨congrArg (fun v : Val => Ending.returned (aggV v)) (by simp [truth, h]), hw1.chg⟩
  · skip
    refine tri_skip ?_
    refine thenQ_normal ?_
    refine tri_seq ?_
    refine tri_region ?_
    refine o_build (bval23_0_1 _ _) rfl rfl ?_
    refine o_storeBV sz23 (by first | exact Nth.z | exact .s .z | exact .s (.s .z) | exact .s (.s (.s .z)) | exact .s (.s (.s (.s .z))) | exact .s (.s (.s (.s (.s .z)))) | exact .s (.s (.s (.s (.s (.s .z))))) | exact .s (.s (.s (.s (.s (.s (.s .z))))))) rfl rfl rfl ?_
    refine triL_nil ?_
    refine thenQ_normal ?_
    refine tri_ret ?_
    refine endC1 rfl agg23 sz23 (by first | exact Nth.z | exact .s .z | exact .s (.s .z) | exact .s (.s (.s .z)) | exact .s (.s (.s (.s .z))) | exact .s (.s (.s (.s (.s .z)))) | exact .s (.s (.s (.s (.s (.s .z))))) | exact .s (.s (.s (.s (.s (.s (.s .z))))))) rfl rfl ?_
    exact fun w1 hw1 => ⟨congrArg (fun v : Val => Ending.returned (aggV v)) (by simp [truth, h]), hw1.chg⟩

theorem cmpK (a b : Val) (w : World) (fa : fit a) (fb : fit b) : Calls Tryd.prog 12 #[aggV a, aggV b] w (Pure w (.tuple #[.int .i64 (cmpE a b).1, .int .i64 (cmpE a b).2])) := by
  refine calls_tri (args := [aggV a, aggV b]) (lent := []) (H := []) Tryd.func12 rfl Tryd.ntmps12 rfl (Sat.start _ _ _ _) ?_
  refine (show Tri _ [(0, _), (1, _)] _ _ _ from ?_)
  refine tri_seq ?_
  refine tri_region ?_
  refine o_box (Val.cs _) rfl rfl rfl (fun b2 => ?_)
  refine o_box (Val.cs _) rfl rfl rfl (fun b3 => ?_)
  refine o_assign rfl rfl ?_
  refine o_assign rfl rfl ?_
  refine triL_nil ?_
  refine thenQ_normal ?_
  refine tri_seq ?_
  refine tri_seq ?_
  refine tri_slots [(3, _), (2, _)] (.cons rfl (.cons rfl (.nil _))) ?_
  refine tri_region ?_
  refine o_loadBV agg23 sz23 (by first | exact Nth.z | exact .s .z | exact .s (.s .z) | exact .s (.s (.s .z)) | exact .s (.s (.s (.s .z))) | exact .s (.s (.s (.s (.s .z)))) | exact .s (.s (.s (.s (.s (.s .z))))) | exact .s (.s (.s (.s (.s (.s (.s .z))))))) rfl rfl ?_
  refine o_callP (first := []) (cap := []) rfl rfl rfl Tryd.call14 (fun w_ hw_ => mayK _ w_ (by assumption)) ?_
  refine o_not rfl rfl ?_
  refine o_move rfl rfl ?_
  refine' triL_or [_, _, _] [(3, _), (2, _)] (dj := 9) (dr := 12) rfl rfl (fun g1 => ?_) ⟨_, rfl, rfl, rfl, (.cons rfl (.cons rfl (.nil _)))⟩ rfl ?_
  rotate_left
  · skip
    refine o_loadBV agg23 sz23 (by first | exact Nth.z | exact .s .z | exact .s (.s .z) | exact .s (.s (.s .z)) | exact .s (.s (.s (.s .z))) | exact .s (.s (.s (.s (.s .z)))) | exact .s (.s (.s (.s (.s (.s .z))))) | exact .s (.s (.s (.s (.s (.s (.s .z))))))) rfl rfl ?_
    refine o_callP (first := []) (cap := []) rfl rfl rfl Tryd.call14 (fun w_ hw_ => mayK _ w_ (by assumption)) ?_
    refine o_not rfl rfl ?_
    exact triL_nil (Piece.mk rfl rfl (.cons rfl (.cons rfl (.nil _))) (fun _ h => h))
  refine triL_nil ?_
  refine thenQ_normal ?_
  refine tri_cond rfl (fun h1 => ?_) (fun h1 => ?_)
  · skip
    have h1 : ¬ (may a && may b) = true := fun e => by simp only [Bool.and_eq_true] at e; simp [e.1, e.2] at h1
    refine tri_seq ?_
    refine tri_region ?_
    refine o_assign rfl rfl ?_
    refine o_assign rfl rfl ?_
    refine triL_nil ?_
    refine thenQ_normal ?_
    refine tri_ret ?_
    refine thenQ_ret ?_
    refine end2 rfl rfl rfl ?_
    exact fun w1 hw1 => ⟨by rw [cmpE, if_neg h1], hw1.chg⟩
  · skip
    have h1 : (may a && may b) = true := by cases x1 : may a <;> cases x2 : may b <;> simp [x1, x2] at h1 ⊢
    have ma : may a = true := (Bool.and_eq_true_iff.1 h1).1
    have mb : may b = true := (Bool.and_eq_true_iff.1 h1).2
    refine tri_skip ?_
    refine thenQ_normal ?_
    refine tri_seq ?_
    refine tri_region ?_
    refine o_loadBV agg23 sz23 (by first | exact Nth.z | exact .s .z | exact .s (.s .z) | exact .s (.s (.s .z)) | exact .s (.s (.s (.s .z))) | exact .s (.s (.s (.s (.s .z)))) | exact .s (.s (.s (.s (.s (.s .z))))) | exact .s (.s (.s (.s (.s (.s (.s .z))))))) rfl rfl ?_
    refine o_loadBV agg23 sz23 (by first | exact Nth.z | exact .s .z | exact .s (.s .z) | exact .s (.s (.s .z)) | exact .s (.s (.s (.s .z))) | exact .s (.s (.s (.s (.s .z)))) | exact .s (.s (.s (.s (.s (.s .z))))) | exact .s (.s (.s (.s (.s (.s (.s .z))))))) rfl rfl ?_
    refine o_callP (first := []) (cap := []) rfl rfl rfl Tryd.call45 (fun w_ hw_ => orderK _ _ w_ (by assumption) (by assumption)) ?_
    refine o_assign rfl rfl ?_
    refine o_assign rfl rfl ?_
    refine triL_nil ?_
    refine thenQ_normal ?_
    refine tri_ret ?_
    refine end2 rfl rfl rfl ?_
    exact fun w1 hw1 => ⟨by rw [cmpE, if_pos h1], hw1.chg⟩

theorem cmpR3 (a b : Val) (w : World) (fa : fit a) (fb : fit b) : Calls Tryd.prog 13 #[aggV a, aggV b] w (Pure w (.tuple #[.int .i64 (cmpE a b).1, .int .i64 (cmpE a b).2])) := by
  refine calls_tri (args := [aggV a, aggV b]) (lent := []) (H := []) Tryd.func13 rfl Tryd.ntmps13 rfl (Sat.start _ _ _ _) ?_
  refine (show Tri _ [(0, _), (1, _)] _ _ _ from ?_)
  refine tri_seq ?_
  refine tri_region ?_
  refine o_box (Val.cs _) rfl rfl rfl (fun b2 => ?_)
  refine o_box (Val.cs _) rfl rfl rfl (fun b3 => ?_)
  refine o_assign rfl rfl ?_
  refine o_assign rfl rfl ?_
  refine triL_nil ?_
  refine thenQ_normal ?_
  refine tri_seq ?_
  refine tri_seq ?_
  refine tri_slots [(3, _), (2, _)] (.cons rfl (.cons rfl (.nil _))) ?_
  refine tri_region ?_
  refine o_loadBV agg23 sz23 (by first | exact Nth.z | exact .s .z | exact .s (.s .z) | exact .s (.s (.s .z)) | exact .s (.s (.s (.s .z))) | exact .s (.s (.s (.s (.s .z)))) | exact .s (.s (.s (.s (.s (.s .z))))) | exact .s (.s (.s (.s (.s (.s (.s .z))))))) rfl rfl ?_
  refine o_callP (first := []) (cap := []) rfl rfl rfl Tryd.call15 (fun w_ hw_ => mayR _ w_ (by assumption)) ?_
  refine o_not rfl rfl ?_
  refine o_move rfl rfl ?_
  refine' triL_or [_, _, _] [(3, _), (2, _)] (dj := 9) (dr := 12) rfl rfl (fun g1 => ?_) ⟨_, rfl, rfl, rfl, (.cons rfl (.cons rfl (.nil _)))⟩ rfl ?_
  rotate_left
  · skip
    refine o_loadBV agg23 sz23 (by first | exact Nth.z | exact .s .z | exact .s (.s .z) | exact .s (.s (.s .z)) | exact .s (.s (.s (.s .z))) | exact .s (.s (.s (.s (.s .z)))) | exact .s (.s (.s (.s (.s (.s .z))))) | exact .s (.s (.s (.s (.s (.s (.s .z))))))) rfl rfl ?_
    refine o_callP (first := []) (cap := []) rfl rfl rfl Tryd.call15 (fun w_ hw_ => mayR _ w_ (by assumption)) ?_
    refine o_not rfl rfl ?_
    exact triL_nil (Piece.mk rfl rfl (.cons rfl (.cons rfl (.nil _))) (fun _ h => h))
  refine triL_nil ?_
  refine thenQ_normal ?_
  refine tri_cond rfl (fun h1 => ?_) (fun h1 => ?_)
  · skip
    have h1 : ¬ (may a && may b) = true := fun e => by simp only [Bool.and_eq_true] at e; simp [e.1, e.2] at h1
    refine tri_seq ?_
    refine tri_region ?_
    refine o_assign rfl rfl ?_
    refine o_assign rfl rfl ?_
    refine triL_nil ?_
    refine thenQ_normal ?_
    refine tri_ret ?_
    refine thenQ_ret ?_
    refine end2 rfl rfl rfl ?_
    exact fun w1 hw1 => ⟨by rw [cmpE, if_neg h1], hw1.chg⟩
  · skip
    have h1 : (may a && may b) = true := by cases x1 : may a <;> cases x2 : may b <;> simp [x1, x2] at h1 ⊢
    have ma : may a = true := (Bool.and_eq_true_iff.1 h1).1
    have mb : may b = true := (Bool.and_eq_true_iff.1 h1).2
    refine tri_skip ?_
    refine thenQ_normal ?_
    refine tri_seq ?_
    refine tri_region ?_
    refine o_loadBV agg23 sz23 (by first | exact Nth.z | exact .s .z | exact .s (.s .z) | exact .s (.s (.s .z)) | exact .s (.s (.s (.s .z))) | exact .s (.s (.s (.s (.s .z)))) | exact .s (.s (.s (.s (.s (.s .z))))) | exact .s (.s (.s (.s (.s (.s (.s .z))))))) rfl rfl ?_
    refine o_loadBV agg23 sz23 (by first | exact Nth.z | exact .s .z | exact .s (.s .z) | exact .s (.s (.s .z)) | exact .s (.s (.s (.s .z))) | exact .s (.s (.s (.s (.s .z)))) | exact .s (.s (.s (.s (.s (.s .z))))) | exact .s (.s (.s (.s (.s (.s (.s .z))))))) rfl rfl ?_
    refine o_callP (first := []) (cap := []) rfl rfl rfl Tryd.call46 (fun w_ hw_ => order3 _ _ w_ (by assumption) (by assumption)) ?_
    refine o_assign rfl rfl ?_
    refine o_assign rfl rfl ?_
    refine triL_nil ?_
    refine thenQ_normal ?_
    refine tri_ret ?_
    refine end2 rfl rfl rfl ?_
    exact fun w1 hw1 => ⟨by rw [cmpE, if_pos h1], hw1.chg⟩

end Go.Proofs.YtgogkkkacpacgaaDoor
