/- the keys' functions, walked -/
import Derived.Test.YtidnfamnigbbmaaProg
import Derived.Test.YtidnfamnigbbmaaKeys1
import Derived.KernelRfl
namespace Go.Proofs.Ytidnfamnigbbmaa
open Go.WK Go.RowKit 

theorem fo28_0 : fieldB Try.prog 28 0 = some 0 := by kernel_rfl
theorem agg3 : aggB Try.prog 3 = some false := by kernel_rfl
theorem fo28_2 : fieldB Try.prog 28 2 = some 2 := by kernel_rfl
theorem agg9 : aggB Try.prog 9 = some false := by kernel_rfl
theorem fo28_1 : fieldB Try.prog 28 1 = some 1 := by kernel_rfl
theorem agg2 : aggB Try.prog 2 = some false := by kernel_rfl
theorem agg28 : aggB Try.prog 28 = some true := by kernel_rfl
theorem sz28 : szB Try.prog 28 = some 3 := by kernel_rfl
theorem bval28  : Try.prog.built 28 [] = some (Val.cs ⟨0, 0, []⟩).toArray := by rfl
theorem flat28 : flatB Try.prog 28 = some valKs := by kernel_rfl
theorem zs28 : (Try.prog.info? 28).map (fun i => (i.zero, i.size)) = some (some (.agg #[.int .i64 0, .int .i64 0, .string .empty]), 3) := by kernel_rfl
theorem zsb28 : (Try.prog.info? 28).map (fun i => (i.zero, i.size, i.bytes)) = some (some (.agg #[.int .i64 0, .int .i64 0, .string .empty]), 3, 32) := by kernel_rfl
theorem bval28_0 (x : Int) : Try.prog.built 28 [(0, .int .i64 x)] = some (Val.cs ⟨x, 0, []⟩).toArray := by rfl
theorem zs5 : (Try.prog.info? 5).map (fun i => (i.zero, i.size)) = some (some (.int .u8 0), 1) := by kernel_rfl
theorem zsb5 : (Try.prog.info? 5).map (fun i => (i.zero, i.size, i.bytes)) = some (some (.int .u8 0), 1, 1) := by kernel_rfl
theorem sz5 : szB Try.prog 5 = some 1 := by kernel_rfl
theorem zero28 : (Try.prog.info? 28).map (·.zero) = some (some (.agg #[.int .i64 0, .int .i64 0, .string .empty])) := by kernel_rfl
theorem sz3 : szB Try.prog 3 = some 1 := by kernel_rfl

theorem place3 (k : Int) (w : World)  : Calls Try.prog 30 #[.int .i64 k] w (Pure w (.int .i64 (place k))) := by
  refine calls_tri (args := [.int .i64 k]) (lent := []) (H := []) Try.func30 rfl Try.ntmps30 rfl (Sat.start _ _ _ _) ?_
  refine (show Tri _ [(0, _)] _ _ _ from ?_)
  refine tri_seq ?_
  refine tri_region ?_
  refine o_assign rfl rfl ?_
  refine triL_nil ?_
  refine thenQ_normal ?_
  refine tri_seq ?_
  refine tri_seq ?_
  refine tri_region ?_
  refine o_move rfl rfl ?_
  refine o_eqlI rfl rfl rfl ?_
  refine triL_nil ?_
  refine thenQ_normal ?_
  refine tri_if rfl (fun h1 => ?_) (fun h1 => ?_)
  · skip
    refine tri_seq ?_
    refine tri_slots [] (.nil _) ?_
    refine tri_region ?_
    refine o_assign rfl rfl ?_
    refine triL_nil ?_
    refine thenQ_normal ?_
    refine tri_ret ?_
    refine thenQ_ret ?_
    refine end1 rfl rfl ?_
    exact fun w1 hw1 => ⟨congrArg (fun b => Ending.returned (.int .i64 b)) (by simp [place, *]), hw1.chg⟩
  · skip
    refine tri_skip ?_
    refine thenQ_normal ?_
    refine tri_seq ?_
    refine tri_seq ?_
    refine tri_region ?_
    refine o_move rfl rfl ?_
    refine o_eqlI rfl rfl rfl ?_
    refine triL_nil ?_
    refine thenQ_normal ?_
    refine tri_if rfl (fun h2 => ?_) (fun h2 => ?_)
    · skip
      refine tri_seq ?_
      refine tri_slots [] (.nil _) ?_
      refine tri_region ?_
      refine o_assign rfl rfl ?_
      refine triL_nil ?_
      refine thenQ_normal ?_
      refine tri_ret ?_
      refine thenQ_ret ?_
      refine end1 rfl rfl ?_
      exact fun w1 hw1 => ⟨congrArg (fun b => Ending.returned (.int .i64 b)) (by simp [place, *]), hw1.chg⟩
    · skip
      refine tri_skip ?_
      refine thenQ_normal ?_
      refine tri_seq ?_
      refine tri_seq ?_
      refine tri_slots [(0, _)] (.cons rfl (.nil _)) ?_
      refine tri_region ?_
      refine o_move rfl rfl ?_
      refine o_eqlI rfl rfl rfl ?_
      refine triL_nil ?_
      refine thenQ_normal ?_
      refine tri_if rfl (fun h3 => ?_) (fun h3 => ?_)
      · skip
        refine tri_seq ?_
        refine tri_region ?_
        refine o_assign rfl rfl ?_
        refine triL_nil ?_
        refine thenQ_normal ?_
        refine tri_ret ?_
        refine thenQ_ret ?_
        refine end1 rfl rfl ?_
        exact fun w1 hw1 => ⟨congrArg (fun b => Ending.returned (.int .i64 b)) (by simp [place, *]), hw1.chg⟩
      · skip
        refine tri_skip ?_
        refine thenQ_normal ?_
        refine tri_seq ?_
        refine tri_region ?_
        refine o_assign rfl rfl ?_
        refine triL_nil ?_
        refine thenQ_normal ?_
        refine tri_ret ?_
        refine end1 rfl rfl ?_
        exact fun w1 hw1 => ⟨congrArg (fun b => Ending.returned (.int .i64 b)) (by simp [place, *]), hw1.chg⟩

theorem bytes3 (a b : List UInt8) (w : World) (ha : a.length ≤ 140737488355328) (hb : b.length ≤ 140737488355328) : Calls Try.prog 31 #[.string (B a), .string (B b)] w (Pure w (.int .i64 (cmpB a b))) := by
  refine calls_tri (args := [.string (B a), .string (B b)]) (lent := []) (H := []) Try.func31 rfl Try.ntmps31 rfl (Sat.start _ _ _ _) ?_
  refine (show Tri _ [(0, _), (1, _)] _ _ _ from ?_)
  refine tri_seq ?_
  refine tri_region ?_
  refine o_assign rfl rfl ?_
  refine triL_nil ?_
  refine thenQ_normal ?_
  refine tri_seq ?_
  refine tri_seq ?_
  refine tri_region ?_
  refine o_assign rfl rfl ?_
  refine triL_nil ?_
  refine thenQ_normal ?_
  refine tri_block ?_
  refine tri_loop (ι := Nat) (F := fun i => [(0, .string (B a)), (1, .string (B b)), (5, .int .i64 (i : Int))]) (HH := fun i => []) (Pu := fun i => i ≤ a.length ∧ i ≤ b.length ∧ cmpB a b = cmpB (a.drop i) (b.drop i)) (μ := fun i => a.length - i) (0) (.cons rfl (.cons rfl (.cons rfl (.nil _)))) (fun _ h => h) (⟨by omega, by omega, rfl⟩) (fun i hi => ?_)
  refine tri_seq ?_
  refine tri_seq ?_
  refine tri_region ?_
  refine o_move rfl rfl ?_
  refine o_move rfl rfl ?_
  refine o_lenB Try.underlying9 rfl rfl ?_
  refine o_lss rfl rfl rfl ?_
  refine o_move rfl rfl ?_
  refine' triL_and [_, _, _, _] [(0, _), (1, _), (5, _)] (dj := 10) (dr := 14) rfl rfl (fun g1 => ?_) ⟨_, rfl, rfl, rfl, (.cons rfl (.cons rfl (.cons rfl (.nil _))))⟩ rfl ?_
  rotate_left
  · skip
    have g1 := of_decide_eq_true g1
    refine o_move rfl rfl ?_
    refine o_move rfl rfl ?_
    refine o_lenB Try.underlying9 rfl rfl ?_
    refine o_lss rfl rfl rfl ?_
    exact triL_nil (Piece.mk rfl rfl (.cons rfl (.cons rfl (.cons rfl (.nil _)))) (fun _ h => h))
  refine triL_nil ?_
  refine thenQ_normal ?_
  refine tri_cond rfl (fun h1 => ?_) (fun h1 => ?_)
  · skip
    simp only [Bool.and_eq_true, decide_eq_true_eq] at h1
    have e := cmpB_drop a b i (by omega) (by omega)
    refine tri_skip ?_
    refine thenQ_normal ?_
    refine tri_seq ?_
    refine tri_block ?_
    refine tri_seq ?_
    refine tri_seq ?_
    refine tri_quiet (by kernel_rfl) (by kernel_rfl) ?_
    refine o_move rfl rfl ?_
    refine o_move rfl rfl ?_
    refine o_idxB Try.underlying9 rfl rfl rfl (by omega) (by omega) ?_
    refine o_move rfl rfl ?_
    refine o_move rfl rfl ?_
    refine o_idxB Try.underlying9 rfl rfl rfl (by omega) (by omega) ?_
    refine o_lss rfl rfl rfl ?_
    refine triL_nil ?_
    refine thenQ_normal ?_
    refine tri_if rfl (fun h2 => ?_) (fun h2 => ?_)
    · skip
      refine tri_seq ?_
      refine tri_slots [] (.nil _) ?_
      refine tri_region ?_
      refine o_assign rfl rfl ?_
      refine triL_nil ?_
      refine thenQ_normal ?_
      refine tri_ret ?_
      refine thenQ_ret ?_
      refine blockQ_ret ?_
      refine thenQ_ret ?_
      refine thenQ_ret ?_
      refine blockQ_ret ?_
      refine thenQ_ret ?_
      refine end1 rfl rfl ?_
      exact fun w1 hw1 => ⟨congrArg (fun b => Ending.returned (.int .i64 b)) (by rw [hi.2.2, e, if_pos (by simpa using h2)]), hw1.chg⟩
    · skip
      refine tri_skip ?_
      refine thenQ_normal ?_
      refine tri_seq ?_
      refine tri_slots [(0, _), (1, _), (5, _)] (.cons rfl (.cons rfl (.cons rfl (.nil _)))) ?_
      refine tri_quiet (by kernel_rfl) (by kernel_rfl) ?_
      refine o_move rfl rfl ?_
      refine o_move rfl rfl ?_
      refine o_idxB Try.underlying9 rfl rfl rfl (by omega) (by omega) ?_
      refine o_move rfl rfl ?_
      refine o_move rfl rfl ?_
      refine o_idxB Try.underlying9 rfl rfl rfl (by omega) (by omega) ?_
      refine o_gtr rfl rfl rfl ?_
      refine triL_nil ?_
      refine thenQ_normal ?_
      refine tri_if rfl (fun h3 => ?_) (fun h3 => ?_)
      · skip
        refine tri_seq ?_
        refine tri_slots [] (.nil _) ?_
        refine tri_region ?_
        refine o_assign rfl rfl ?_
        refine triL_nil ?_
        refine thenQ_normal ?_
        refine tri_ret ?_
        refine blockQ_ret ?_
        refine thenQ_ret ?_
        refine thenQ_ret ?_
        refine blockQ_ret ?_
        refine thenQ_ret ?_
        refine end1 rfl rfl ?_
        exact fun w1 hw1 => ⟨congrArg (fun b => Ending.returned (.int .i64 b)) (by rw [hi.2.2, e, if_neg (by simpa using h2), if_pos (by simpa using h3)]), hw1.chg⟩
      · skip
        refine tri_skip ?_
        refine blockQ_normal ?_
        refine thenQ_normal ?_
        refine tri_slots [(0, _), (1, _), (5, _)] (.cons rfl (.cons rfl (.cons rfl (.nil _)))) ?_
        refine tri_region ?_
        refine o_move rfl rfl ?_
        refine o_addN rfl rfl rfl (by omega) ?_
        refine o_assign rfl rfl ?_
        refine triL_nil ?_
        refine thenQ_normal ?_
        exact ⟨i + 1, (.cons rfl (.cons rfl (.cons rfl (.nil _)))), fun _ h => h, ⟨by omega, by omega, by rw [hi.2.2, cmpB_drop a b i (by omega) (by omega), if_neg (by simpa using h2), if_neg (by simpa using h3)]⟩, by omega⟩
  · skip
    simp only [Bool.and_eq_false_iff, decide_eq_false_iff_not] at h1
    have e := cmpB_end a b i hi.1 hi.2.1 (by omega)
    refine tri_exit ?_
    refine thenQ_exit ?_
    refine thenQ_exit ?_
    refine blockQ_here ?_
    refine thenQ_normal ?_
    refine tri_seq ?_
    refine tri_seq ?_
    refine tri_region ?_
    refine o_move rfl rfl ?_
    refine o_lenB Try.underlying9 rfl rfl ?_
    refine o_move rfl rfl ?_
    refine o_lenB Try.underlying9 rfl rfl ?_
    refine o_lss rfl rfl rfl ?_
    refine triL_nil ?_
    refine thenQ_normal ?_
    refine tri_if rfl (fun h4 => ?_) (fun h4 => ?_)
    · skip
      refine tri_seq ?_
      refine tri_slots [] (.nil _) ?_
      refine tri_region ?_
      refine o_assign rfl rfl ?_
      refine triL_nil ?_
      refine thenQ_normal ?_
      refine tri_ret ?_
      refine thenQ_ret ?_
      refine end1 rfl rfl ?_
      exact fun w1 hw1 => ⟨congrArg (fun b => Ending.returned (.int .i64 b)) (by rw [hi.2.2, e, if_pos (by omega)]), hw1.chg⟩
    · skip
      refine tri_skip ?_
      refine thenQ_normal ?_
      refine tri_seq ?_
      refine tri_seq ?_
      refine tri_slots [(0, _), (1, _)] (.cons rfl (.cons rfl (.nil _))) ?_
      refine tri_region ?_
      refine o_move rfl rfl ?_
      refine o_lenB Try.underlying9 rfl rfl ?_
      refine o_move rfl rfl ?_
      refine o_lenB Try.underlying9 rfl rfl ?_
      refine o_gtr rfl rfl rfl ?_
      refine triL_nil ?_
      refine thenQ_normal ?_
      refine tri_if rfl (fun h5 => ?_) (fun h5 => ?_)
      · skip
        refine tri_seq ?_
        refine tri_slots [] (.nil _) ?_
        refine tri_region ?_
        refine o_assign rfl rfl ?_
        refine triL_nil ?_
        refine thenQ_normal ?_
        refine tri_ret ?_
        refine thenQ_ret ?_
        refine end1 rfl rfl ?_
        exact fun w1 hw1 => ⟨congrArg (fun b => Ending.returned (.int .i64 b)) (by rw [hi.2.2, e, if_neg (by omega), if_pos (by omega)]), hw1.chg⟩
      · skip
        refine tri_skip ?_
        refine thenQ_normal ?_
        refine tri_seq ?_
        refine tri_slots [] (.nil _) ?_
        refine tri_region ?_
        refine o_assign rfl rfl ?_
        refine triL_nil ?_
        refine thenQ_normal ?_
        refine tri_ret ?_
        refine end1 rfl rfl ?_
        exact fun w1 hw1 => ⟨congrArg (fun b => Ending.returned (.int .i64 b)) (by rw [hi.2.2, e, if_neg (by omega), if_neg (by omega)]), hw1.chg⟩

theorem order3 (a b : Val) (w : World) (ha : a.s.length ≤ 140737488355328) (hb : b.s.length ≤ 140737488355328) : Calls Try.prog 26 #[aggV a, aggV b] w (Pure w (.int .i64 (cmpV a b))) := by
  refine calls_tri (args := [aggV a, aggV b]) (lent := []) (H := []) Try.func26 rfl Try.ntmps26 rfl (Sat.start _ _ _ _) ?_
  refine (show Tri _ [(0, _), (1, _)] _ _ _ from ?_)
  refine tri_seq ?_
  refine tri_region ?_
  refine o_box (Val.cs _) rfl rfl rfl (fun b2 => ?_)
  refine o_box (Val.cs _) rfl rfl rfl (fun b3 => ?_)
  refine o_assign rfl rfl ?_
  refine triL_nil ?_
  refine thenQ_normal ?_
  refine tri_seq ?_
  refine tri_mix (_) [(0, true), (1, true), (2, true), (3, true), (4, true), (5, false), (6, false), (7, false)] [5, 6, 7] (by kernel_rfl) (by kernel_rfl) (fun _ h => h) ?_
  refine mix_fix rfl ?_
  refine o_field fo28_0 rfl rfl ?_
  refine triL_nil ⟨rfl, ?_⟩
  refine mix_fix rfl ?_
  refine o_load agg3 (by first | exact Nth.z | exact .s .z | exact .s (.s .z) | exact .s (.s (.s .z)) | exact .s (.s (.s (.s .z))) | exact .s (.s (.s (.s (.s .z)))) | exact .s (.s (.s (.s (.s (.s .z))))) | exact .s (.s (.s (.s (.s (.s (.s .z))))))) rfl rfl rfl ?_
  refine triL_nil ⟨rfl, ?_⟩
  refine mix_fix rfl ?_
  refine o_callP (first := []) (cap := []) rfl rfl rfl Try.call30 (fun w1 h1 => place3 a.k w1) ?_
  refine triL_nil ⟨rfl, ?_⟩
  refine mix_fix rfl ?_
  refine o_field fo28_0 rfl rfl ?_
  refine triL_nil ⟨rfl, ?_⟩
  refine mix_fix rfl ?_
  refine o_load agg3 (by first | exact Nth.z | exact .s .z | exact .s (.s .z) | exact .s (.s (.s .z)) | exact .s (.s (.s (.s .z))) | exact .s (.s (.s (.s (.s .z)))) | exact .s (.s (.s (.s (.s (.s .z))))) | exact .s (.s (.s (.s (.s (.s (.s .z))))))) rfl rfl rfl ?_
  refine triL_nil ⟨rfl, ?_⟩
  refine mix_rest [5, 6, 7] [_, _, _] rfl rfl ?_
  refine o_callP (first := []) (cap := []) rfl rfl rfl Try.call30 (fun w1 h1 => place3 b.k w1) ?_
  refine o_assign rfl rfl ?_
  refine o_assign rfl rfl ?_
  refine triL_nil ⟨rfl, ?_⟩
  refine thenQ_normal ?_
  refine tri_seq ?_
  refine tri_seq ?_
  refine tri_slots [(6, _), (5, _), (3, _), (2, _)] (.cons rfl (.cons rfl (.cons rfl (.cons rfl (.nil _))))) ?_
  refine tri_region ?_
  refine o_move rfl rfl ?_
  refine o_move rfl rfl ?_
  refine o_lss rfl rfl rfl ?_
  refine triL_nil ?_
  refine thenQ_normal ?_
  refine tri_if rfl (fun h1 => ?_) (fun h1 => ?_)
  · skip
    refine tri_seq ?_
    refine tri_slots [] (.nil _) ?_
    refine tri_region ?_
    refine o_assign rfl rfl ?_
    refine triL_nil ?_
    refine thenQ_normal ?_
    refine tri_ret ?_
    refine thenQ_ret ?_
    refine end1 rfl rfl ?_
    exact fun w1 hw1 => ⟨congrArg (fun b => Ending.returned (.int .i64 b)) (by simp [cmpV, *]), hw1.chg⟩
  · skip
    refine tri_skip ?_
    refine thenQ_normal ?_
    refine tri_seq ?_
    refine tri_seq ?_
    refine tri_region ?_
    refine o_move rfl rfl ?_
    refine o_move rfl rfl ?_
    refine o_gtr rfl rfl rfl ?_
    refine triL_nil ?_
    refine thenQ_normal ?_
    refine tri_if rfl (fun h2 => ?_) (fun h2 => ?_)
    · skip
      refine tri_seq ?_
      refine tri_slots [] (.nil _) ?_
      refine tri_region ?_
      refine o_assign rfl rfl ?_
      refine triL_nil ?_
      refine thenQ_normal ?_
      refine tri_ret ?_
      refine thenQ_ret ?_
      refine end1 rfl rfl ?_
      exact fun w1 hw1 => ⟨congrArg (fun b => Ending.returned (.int .i64 b)) (by simp [cmpV, *]), hw1.chg⟩
    · skip
      refine tri_skip ?_
      refine thenQ_normal ?_
      refine tri_seq ?_
      refine tri_seq ?_
      refine tri_slots [(3, _), (2, _)] (.cons rfl (.cons rfl (.nil _))) ?_
      refine tri_region ?_
      refine o_field fo28_0 rfl rfl ?_
      refine o_load agg3 (by first | exact Nth.z | exact .s .z | exact .s (.s .z) | exact .s (.s (.s .z)) | exact .s (.s (.s (.s .z))) | exact .s (.s (.s (.s (.s .z)))) | exact .s (.s (.s (.s (.s (.s .z))))) | exact .s (.s (.s (.s (.s (.s (.s .z))))))) rfl rfl rfl ?_
      refine o_eqlI rfl rfl rfl ?_
      refine triL_nil ?_
      refine thenQ_normal ?_
      refine tri_if rfl (fun h3 => ?_) (fun h3 => ?_)
      · skip
        refine tri_seq ?_
        refine tri_region ?_
        refine o_field fo28_2 rfl rfl ?_
        refine o_load agg9 (by first | exact Nth.z | exact .s .z | exact .s (.s .z) | exact .s (.s (.s .z)) | exact .s (.s (.s (.s .z))) | exact .s (.s (.s (.s (.s .z)))) | exact .s (.s (.s (.s (.s (.s .z))))) | exact .s (.s (.s (.s (.s (.s (.s .z))))))) rfl rfl rfl ?_
        refine o_field fo28_2 rfl rfl ?_
        refine o_load agg9 (by first | exact Nth.z | exact .s .z | exact .s (.s .z) | exact .s (.s (.s .z)) | exact .s (.s (.s (.s .z))) | exact .s (.s (.s (.s (.s .z)))) | exact .s (.s (.s (.s (.s (.s .z))))) | exact .s (.s (.s (.s (.s (.s (.s .z))))))) rfl rfl rfl ?_
        refine o_callP (first := []) (cap := []) rfl rfl rfl Try.call31 (fun w1 h1 => bytes3 a.s b.s w1 ha hb) ?_
        refine o_assign rfl rfl ?_
        refine triL_nil ?_
        refine thenQ_normal ?_
        refine tri_ret ?_
        refine thenQ_ret ?_
        refine end1 rfl rfl ?_
        exact fun w1 hw1 => ⟨congrArg (fun b => Ending.returned (.int .i64 b)) (by unfold cmpV; rw [if_neg h1, if_neg h2, if_pos h3]), hw1.chg⟩
      · skip
        refine tri_skip ?_
        refine thenQ_normal ?_
        refine tri_seq ?_
        refine tri_seq ?_
        refine tri_region ?_
        refine o_field fo28_1 rfl rfl ?_
        refine o_load agg2 (by first | exact Nth.z | exact .s .z | exact .s (.s .z) | exact .s (.s (.s .z)) | exact .s (.s (.s (.s .z))) | exact .s (.s (.s (.s (.s .z)))) | exact .s (.s (.s (.s (.s (.s .z))))) | exact .s (.s (.s (.s (.s (.s (.s .z))))))) rfl rfl rfl ?_
        refine o_field fo28_1 rfl rfl ?_
        refine o_load agg2 (by first | exact Nth.z | exact .s .z | exact .s (.s .z) | exact .s (.s (.s .z)) | exact .s (.s (.s (.s .z))) | exact .s (.s (.s (.s (.s .z)))) | exact .s (.s (.s (.s (.s (.s .z))))) | exact .s (.s (.s (.s (.s (.s (.s .z))))))) rfl rfl rfl ?_
        refine o_lss rfl rfl rfl ?_
        refine triL_nil ?_
        refine thenQ_normal ?_
        refine tri_if rfl (fun h4 => ?_) (fun h4 => ?_)
        · skip
          refine tri_seq ?_
          refine tri_slots [] (.nil _) ?_
          refine tri_region ?_
          refine o_assign rfl rfl ?_
          refine triL_nil ?_
          refine thenQ_normal ?_
          refine tri_ret ?_
          refine thenQ_ret ?_
          refine end1 rfl rfl ?_
          exact fun w1 hw1 => ⟨congrArg (fun b => Ending.returned (.int .i64 b)) (by simp [cmpV, *]), hw1.chg⟩
        · skip
          refine tri_skip ?_
          refine thenQ_normal ?_
          refine tri_seq ?_
          refine tri_seq ?_
          refine tri_slots [(3, _), (2, _)] (.cons rfl (.cons rfl (.nil _))) ?_
          refine tri_region ?_
          refine o_field fo28_1 rfl rfl ?_
          refine o_load agg2 (by first | exact Nth.z | exact .s .z | exact .s (.s .z) | exact .s (.s (.s .z)) | exact .s (.s (.s (.s .z))) | exact .s (.s (.s (.s (.s .z)))) | exact .s (.s (.s (.s (.s (.s .z))))) | exact .s (.s (.s (.s (.s (.s (.s .z))))))) rfl rfl rfl ?_
          refine o_field fo28_1 rfl rfl ?_
          refine o_load agg2 (by first | exact Nth.z | exact .s .z | exact .s (.s .z) | exact .s (.s (.s .z)) | exact .s (.s (.s (.s .z))) | exact .s (.s (.s (.s (.s .z)))) | exact .s (.s (.s (.s (.s (.s .z))))) | exact .s (.s (.s (.s (.s (.s (.s .z))))))) rfl rfl rfl ?_
          refine o_gtr rfl rfl rfl ?_
          refine triL_nil ?_
          refine thenQ_normal ?_
          refine tri_if rfl (fun h5 => ?_) (fun h5 => ?_)
          · skip
            refine tri_seq ?_
            refine tri_slots [] (.nil _) ?_
            refine tri_region ?_
            refine o_assign rfl rfl ?_
            refine triL_nil ?_
            refine thenQ_normal ?_
            refine tri_ret ?_
            refine thenQ_ret ?_
            refine end1 rfl rfl ?_
            exact fun w1 hw1 => ⟨congrArg (fun b => Ending.returned (.int .i64 b)) (by simp [cmpV, *]), hw1.chg⟩
          · skip
            refine tri_skip ?_
            refine thenQ_normal ?_
            refine tri_seq ?_
            refine tri_slots [] (.nil _) ?_
            refine tri_region ?_
            refine o_assign rfl rfl ?_
            refine triL_nil ?_
            refine thenQ_normal ?_
            refine tri_ret ?_
            refine end1 rfl rfl ?_
            exact fun w1 hw1 => ⟨congrArg (fun b => Ending.returned (.int .i64 b)) (by simp [cmpV, *]), hw1.chg⟩

theorem mayK (v : Val) (w : World) (hs : v.s.length ≤ 140737488355328) : Calls Try.prog 24 #[aggV v] w (Pure w (.bool (may v))) := by
  refine calls_tri (args := [aggV v]) (lent := []) (H := []) Try.func24 rfl Try.ntmps24 rfl (Sat.start _ _ _ _) ?_
  refine (show Tri _ [(0, _)] _ _ _ from ?_)
  have e64 : decide ((v.s.length : Int) ≤ 64) = decide (v.s.length ≤ 64) := le_dec _ 64
  refine tri_seq ?_
  refine tri_region ?_
  refine o_box (Val.cs _) rfl rfl rfl (fun b1 => ?_)
  refine o_assign rfl rfl ?_
  refine triL_nil ?_
  refine thenQ_normal ?_
  refine tri_seq ?_
  refine tri_seq ?_
  refine tri_region ?_
  refine o_field fo28_0 rfl rfl ?_
  refine o_load agg3 (by first | exact Nth.z | exact .s .z | exact .s (.s .z) | exact .s (.s (.s .z)) | exact .s (.s (.s (.s .z))) | exact .s (.s (.s (.s (.s .z)))) | exact .s (.s (.s (.s (.s (.s .z))))) | exact .s (.s (.s (.s (.s (.s (.s .z))))))) rfl rfl rfl ?_
  refine triL_nil ?_
  refine thenQ_normal ?_
  refine tri_block ?_
  refine tri_seq ?_
  refine tri_region ?_
  refine o_eqlI rfl rfl rfl ?_
  refine o_assign rfl rfl ?_
  refine triL_nil ?_
  refine thenQ_normal ?_
  refine tri_if rfl (fun h1 => ?_) (fun h1 => ?_)
  · skip
    refine tri_seq ?_
    refine tri_slots [(1, _)] (.cons rfl (.nil _)) ?_
    refine tri_region ?_
    refine o_loadBV agg28 sz28 (by first | exact Nth.z | exact .s .z | exact .s (.s .z) | exact .s (.s (.s .z)) | exact .s (.s (.s (.s .z))) | exact .s (.s (.s (.s (.s .z)))) | exact .s (.s (.s (.s (.s (.s .z))))) | exact .s (.s (.s (.s (.s (.s (.s .z))))))) rfl rfl ?_
    refine o_build bval28 rfl rfl ?_
    refine o_eqlV flat28 rfl rfl rfl ?_
    refine o_assign rfl rfl ?_
    refine triL_nil ?_
    refine thenQ_normal ?_
    refine tri_ret ?_
    refine blockQ_ret ?_
    refine thenQ_ret ?_
    refine end1 rfl rfl ?_
    exact fun w1 hw1 => ⟨congrArg (fun b => Ending.returned (.bool b)) (by simp [may, val_dec, *]), hw1.chg⟩
  · skip
    refine tri_seq ?_
    refine tri_slots [(4, _), (1, _)] (.cons rfl (.cons rfl (.nil _))) ?_
    refine tri_region ?_
    refine o_eqlI rfl rfl rfl ?_
    refine o_assign rfl rfl ?_
    refine triL_nil ?_
    refine thenQ_normal ?_
    refine tri_if rfl (fun h2 => ?_) (fun h2 => ?_)
    · skip
      refine tri_seq ?_
      refine tri_region ?_
      refine o_field fo28_2 rfl rfl ?_
      refine o_load agg9 (by first | exact Nth.z | exact .s .z | exact .s (.s .z) | exact .s (.s (.s .z)) | exact .s (.s (.s (.s .z))) | exact .s (.s (.s (.s (.s .z)))) | exact .s (.s (.s (.s (.s (.s .z))))) | exact .s (.s (.s (.s (.s (.s (.s .z))))))) rfl rfl rfl ?_
      refine o_eqlT rfl rfl rfl ?_
      refine o_assign rfl rfl ?_
      refine triL_nil ?_
      refine thenQ_normal ?_
      refine tri_ret ?_
      refine blockQ_ret ?_
      refine thenQ_ret ?_
      refine end1 rfl rfl ?_
      exact fun w1 hw1 => ⟨congrArg (fun b => Ending.returned (.bool b)) (by simp [may, val_dec, *]), hw1.chg⟩
    · skip
      refine tri_seq ?_
      refine tri_region ?_
      refine o_eqlI rfl rfl rfl ?_
      refine o_assign rfl rfl ?_
      refine triL_nil ?_
      refine thenQ_normal ?_
      refine tri_if rfl (fun h3 => ?_) (fun h3 => ?_)
      · skip
        refine tri_seq ?_
        refine tri_slots [(1, _)] (.cons rfl (.nil _)) ?_
        refine tri_region ?_
        refine o_field fo28_1 rfl rfl ?_
        refine o_load agg2 (by first | exact Nth.z | exact .s .z | exact .s (.s .z) | exact .s (.s (.s .z)) | exact .s (.s (.s (.s .z))) | exact .s (.s (.s (.s (.s .z)))) | exact .s (.s (.s (.s (.s (.s .z))))) | exact .s (.s (.s (.s (.s (.s (.s .z))))))) rfl rfl rfl ?_
        refine o_eqlI rfl rfl rfl ?_
        refine o_move rfl rfl ?_
        refine' triL_and [_, _, _, _] [] (dj := 20) (dr := 24) rfl rfl (fun g1 => ?_) ⟨_, rfl, rfl, rfl, (.nil _)⟩ rfl ?_
        rotate_left
        · skip
          have g1 := of_decide_eq_true g1
          refine o_field fo28_2 rfl rfl ?_
          refine o_load agg9 (by first | exact Nth.z | exact .s .z | exact .s (.s .z) | exact .s (.s (.s .z)) | exact .s (.s (.s (.s .z))) | exact .s (.s (.s (.s (.s .z)))) | exact .s (.s (.s (.s (.s (.s .z))))) | exact .s (.s (.s (.s (.s (.s (.s .z))))))) rfl rfl rfl ?_
          refine o_lenB Try.underlying9 rfl rfl ?_
          refine o_leq rfl rfl rfl ?_
          exact triL_nil (Piece.mk rfl rfl (.nil _) (fun _ h => h))
        refine o_assign rfl rfl ?_
        refine triL_nil ?_
        refine thenQ_normal ?_
        refine tri_ret ?_
        refine blockQ_ret ?_
        refine thenQ_ret ?_
        refine end1 rfl rfl ?_
        exact fun w1 hw1 => ⟨congrArg (fun b => Ending.returned (.bool b)) (by simp [may, val_dec, *]), hw1.chg⟩
      · skip
        refine tri_seq ?_
        refine tri_slots [(4, _), (1, _)] (.cons rfl (.cons rfl (.nil _))) ?_
        refine tri_region ?_
        refine o_eqlI rfl rfl rfl ?_
        refine o_assign rfl rfl ?_
        refine triL_nil ?_
        refine thenQ_normal ?_
        refine tri_if rfl (fun h4 => ?_) (fun h4 => ?_)
        · skip
          refine tri_seq ?_
          refine tri_region ?_
          refine o_field fo28_2 rfl rfl ?_
          refine o_load agg9 (by first | exact Nth.z | exact .s .z | exact .s (.s .z) | exact .s (.s (.s .z)) | exact .s (.s (.s (.s .z))) | exact .s (.s (.s (.s (.s .z)))) | exact .s (.s (.s (.s (.s (.s .z))))) | exact .s (.s (.s (.s (.s (.s (.s .z))))))) rfl rfl rfl ?_
          refine o_eqlT rfl rfl rfl ?_
          refine o_move rfl rfl ?_
          refine' triL_and [_, _, _, _, _, _, _, _] [] (dj := 31) (dr := 39) rfl rfl (fun g2 => ?_) ⟨_, rfl, rfl, rfl, (.nil _)⟩ rfl ?_
          rotate_left
          · skip
            have g2 := of_decide_eq_true g2
            refine o_field fo28_1 rfl rfl ?_
            refine o_load agg2 (by first | exact Nth.z | exact .s .z | exact .s (.s .z) | exact .s (.s (.s .z)) | exact .s (.s (.s (.s .z))) | exact .s (.s (.s (.s (.s .z)))) | exact .s (.s (.s (.s (.s (.s .z))))) | exact .s (.s (.s (.s (.s (.s (.s .z))))))) rfl rfl rfl ?_
            refine o_eqlI rfl rfl rfl ?_
            refine o_move rfl rfl ?_
            refine' triL_or [_, _, _] [(31, _)] (dj := 35) (dr := 38) rfl rfl (fun g3 => ?_) ⟨_, rfl, rfl, rfl, (.cons rfl (.nil _))⟩ rfl ?_
            rotate_left
            · skip
              have g3 := of_decide_eq_false g3
              refine o_field fo28_1 rfl rfl ?_
              refine o_load agg2 (by first | exact Nth.z | exact .s .z | exact .s (.s .z) | exact .s (.s (.s .z)) | exact .s (.s (.s (.s .z))) | exact .s (.s (.s (.s (.s .z)))) | exact .s (.s (.s (.s (.s (.s .z))))) | exact .s (.s (.s (.s (.s (.s (.s .z))))))) rfl rfl rfl ?_
              refine o_eqlI rfl rfl rfl ?_
              exact triL_nil (Piece.mk rfl rfl (.cons rfl (.nil _)) (fun _ h => h))
            exact triL_nil (Piece.mk rfl rfl (.nil _) (fun _ h => h))
          refine o_assign rfl rfl ?_
          refine triL_nil ?_
          refine thenQ_normal ?_
          refine tri_ret ?_
          refine blockQ_ret ?_
          refine thenQ_ret ?_
          refine end1 rfl rfl ?_
          exact fun w1 hw1 => ⟨congrArg (fun b => Ending.returned (.bool b)) (by simp [may, val_dec, *]), hw1.chg⟩
        · skip
          refine tri_skip ?_
          refine blockQ_normal ?_
          refine thenQ_normal ?_
          refine tri_seq ?_
          refine tri_slots [] (.nil _) ?_
          refine tri_region ?_
          refine o_assign rfl rfl ?_
          refine triL_nil ?_
          refine thenQ_normal ?_
          refine tri_ret ?_
          refine end1 rfl rfl ?_
          exact fun w1 hw1 => ⟨congrArg (fun b => Ending.returned (.bool b)) (by simp [may, val_dec, *]), hw1.chg⟩

theorem mayR (v : Val) (w : World) (hs : v.s.length ≤ 140737488355328) : Calls Try.prog 21 #[aggV v] w (Pure w (.bool (may v))) := by
  refine calls_tri (args := [aggV v]) (lent := []) (H := []) Try.func21 rfl Try.ntmps21 rfl (Sat.start _ _ _ _) ?_
  refine (show Tri _ [(0, _)] _ _ _ from ?_)
  have e64 : decide ((v.s.length : Int) ≤ 64) = decide (v.s.length ≤ 64) := le_dec _ 64
  have e01 : (decide (0 ≤ v.n) && decide (v.n ≤ 1)) = (decide (v.n = 0) || decide (v.n = 1)) := by rw [← Bool.decide_and, ← Bool.decide_or]; exact decide_eq_decide.2 (by omega)
  refine tri_seq ?_
  refine tri_region ?_
  refine o_box (Val.cs _) rfl rfl rfl (fun b1 => ?_)
  refine o_assign rfl rfl ?_
  refine triL_nil ?_
  refine thenQ_normal ?_
  refine tri_seq ?_
  refine tri_seq ?_
  refine tri_region ?_
  refine o_field fo28_0 rfl rfl ?_
  refine o_load agg3 (by first | exact Nth.z | exact .s .z | exact .s (.s .z) | exact .s (.s (.s .z)) | exact .s (.s (.s (.s .z))) | exact .s (.s (.s (.s (.s .z)))) | exact .s (.s (.s (.s (.s (.s .z))))) | exact .s (.s (.s (.s (.s (.s (.s .z))))))) rfl rfl rfl ?_
  refine o_eqlI rfl rfl rfl ?_
  refine triL_nil ?_
  refine thenQ_normal ?_
  refine tri_if rfl (fun h1 => ?_) (fun h1 => ?_)
  · skip
    refine tri_seq ?_
    refine tri_slots [(1, _)] (.cons rfl (.nil _)) ?_
    refine tri_region ?_
    refine o_field fo28_1 rfl rfl ?_
    refine o_load agg2 (by first | exact Nth.z | exact .s .z | exact .s (.s .z) | exact .s (.s (.s .z)) | exact .s (.s (.s (.s .z))) | exact .s (.s (.s (.s (.s .z)))) | exact .s (.s (.s (.s (.s (.s .z))))) | exact .s (.s (.s (.s (.s (.s (.s .z))))))) rfl rfl rfl ?_
    refine o_eqlI rfl rfl rfl ?_
    refine o_move rfl rfl ?_
    refine' triL_and [_, _, _] [] (dj := 9) (dr := 12) rfl rfl (fun g1 => ?_) ⟨_, rfl, rfl, rfl, (.nil _)⟩ rfl ?_
    rotate_left
    · skip
      refine o_field fo28_2 rfl rfl ?_
      refine o_load agg9 (by first | exact Nth.z | exact .s .z | exact .s (.s .z) | exact .s (.s (.s .z)) | exact .s (.s (.s (.s .z))) | exact .s (.s (.s (.s (.s .z)))) | exact .s (.s (.s (.s (.s (.s .z))))) | exact .s (.s (.s (.s (.s (.s (.s .z))))))) rfl rfl rfl ?_
      refine o_eqlT rfl rfl rfl ?_
      exact triL_nil (Piece.mk rfl rfl (.nil _) (fun _ h => h))
    refine o_assign rfl rfl ?_
    refine triL_nil ?_
    refine thenQ_normal ?_
    refine tri_ret ?_
    refine thenQ_ret ?_
    refine end1 rfl rfl ?_
    exact fun w1 hw1 => ⟨congrArg (fun b => Ending.returned (.bool b)) (by simp [may, val_dec, *] <;> simp only [Bool.and_assoc, e01]), hw1.chg⟩
  · skip
    refine tri_skip ?_
    refine thenQ_normal ?_
    refine tri_seq ?_
    refine tri_seq ?_
    refine tri_slots [(1, _)] (.cons rfl (.nil _)) ?_
    refine tri_region ?_
    refine o_field fo28_0 rfl rfl ?_
    refine o_load agg3 (by first | exact Nth.z | exact .s .z | exact .s (.s .z) | exact .s (.s (.s .z)) | exact .s (.s (.s (.s .z))) | exact .s (.s (.s (.s (.s .z)))) | exact .s (.s (.s (.s (.s (.s .z))))) | exact .s (.s (.s (.s (.s (.s (.s .z))))))) rfl rfl rfl ?_
    refine o_eqlI rfl rfl rfl ?_
    refine triL_nil ?_
    refine thenQ_normal ?_
    refine tri_if rfl (fun h2 => ?_) (fun h2 => ?_)
    · skip
      refine tri_seq ?_
      refine tri_region ?_
      refine o_field fo28_2 rfl rfl ?_
      refine o_load agg9 (by first | exact Nth.z | exact .s .z | exact .s (.s .z) | exact .s (.s (.s .z)) | exact .s (.s (.s (.s .z))) | exact .s (.s (.s (.s (.s .z)))) | exact .s (.s (.s (.s (.s (.s .z))))) | exact .s (.s (.s (.s (.s (.s (.s .z))))))) rfl rfl rfl ?_
      refine o_eqlT rfl rfl rfl ?_
      refine o_assign rfl rfl ?_
      refine triL_nil ?_
      refine thenQ_normal ?_
      refine tri_ret ?_
      refine thenQ_ret ?_
      refine end1 rfl rfl ?_
      exact fun w1 hw1 => ⟨congrArg (fun b => Ending.returned (.bool b)) (by simp [may, val_dec, *] <;> simp only [Bool.and_assoc, e01]), hw1.chg⟩
    · skip
      refine tri_skip ?_
      refine thenQ_normal ?_
      refine tri_seq ?_
      refine tri_seq ?_
      refine tri_region ?_
      refine o_field fo28_0 rfl rfl ?_
      refine o_load agg3 (by first | exact Nth.z | exact .s .z | exact .s (.s .z) | exact .s (.s (.s .z)) | exact .s (.s (.s (.s .z))) | exact .s (.s (.s (.s (.s .z)))) | exact .s (.s (.s (.s (.s (.s .z))))) | exact .s (.s (.s (.s (.s (.s (.s .z))))))) rfl rfl rfl ?_
      refine o_eqlI rfl rfl rfl ?_
      refine triL_nil ?_
      refine thenQ_normal ?_
      refine tri_if rfl (fun h3 => ?_) (fun h3 => ?_)
      · skip
        refine tri_seq ?_
        refine tri_slots [(1, _)] (.cons rfl (.nil _)) ?_
        refine tri_region ?_
        refine o_field fo28_1 rfl rfl ?_
        refine o_load agg2 (by first | exact Nth.z | exact .s .z | exact .s (.s .z) | exact .s (.s (.s .z)) | exact .s (.s (.s (.s .z))) | exact .s (.s (.s (.s (.s .z)))) | exact .s (.s (.s (.s (.s (.s .z))))) | exact .s (.s (.s (.s (.s (.s (.s .z))))))) rfl rfl rfl ?_
        refine o_eqlI rfl rfl rfl ?_
        refine o_move rfl rfl ?_
        refine' triL_and [_, _, _, _] [] (dj := 26) (dr := 30) rfl rfl (fun g2 => ?_) ⟨_, rfl, rfl, rfl, (.nil _)⟩ rfl ?_
        rotate_left
        · skip
          refine o_field fo28_2 rfl rfl ?_
          refine o_load agg9 (by first | exact Nth.z | exact .s .z | exact .s (.s .z) | exact .s (.s (.s .z)) | exact .s (.s (.s (.s .z))) | exact .s (.s (.s (.s (.s .z)))) | exact .s (.s (.s (.s (.s (.s .z))))) | exact .s (.s (.s (.s (.s (.s (.s .z))))))) rfl rfl rfl ?_
          refine o_lenB Try.underlying9 rfl rfl ?_
          refine o_leq rfl rfl rfl ?_
          exact triL_nil (Piece.mk rfl rfl (.nil _) (fun _ h => h))
        refine o_assign rfl rfl ?_
        refine triL_nil ?_
        refine thenQ_normal ?_
        refine tri_ret ?_
        refine thenQ_ret ?_
        refine end1 rfl rfl ?_
        exact fun w1 hw1 => ⟨congrArg (fun b => Ending.returned (.bool b)) (by simp [may, val_dec, *] <;> simp only [Bool.and_assoc, e01]), hw1.chg⟩
      · skip
        refine tri_skip ?_
        refine thenQ_normal ?_
        refine tri_seq ?_
        refine tri_slots [(1, _)] (.cons rfl (.nil _)) ?_
        refine tri_region ?_
        refine o_field fo28_0 rfl rfl ?_
        refine o_load agg3 (by first | exact Nth.z | exact .s .z | exact .s (.s .z) | exact .s (.s (.s .z)) | exact .s (.s (.s (.s .z))) | exact .s (.s (.s (.s (.s .z)))) | exact .s (.s (.s (.s (.s (.s .z))))) | exact .s (.s (.s (.s (.s (.s (.s .z))))))) rfl rfl rfl ?_
        refine o_eqlI rfl rfl rfl ?_
        refine o_move rfl rfl ?_
        refine' triL_and [_, _, _] [(1, _)] (dj := 35) (dr := 38) rfl rfl (fun g3 => ?_) ⟨_, rfl, rfl, rfl, (.cons rfl (.nil _))⟩ rfl ?_
        rotate_left
        · skip
          refine o_field fo28_2 rfl rfl ?_
          refine o_load agg9 (by first | exact Nth.z | exact .s .z | exact .s (.s .z) | exact .s (.s (.s .z)) | exact .s (.s (.s (.s .z))) | exact .s (.s (.s (.s (.s .z)))) | exact .s (.s (.s (.s (.s (.s .z))))) | exact .s (.s (.s (.s (.s (.s (.s .z))))))) rfl rfl rfl ?_
          refine o_eqlT rfl rfl rfl ?_
          exact triL_nil (Piece.mk rfl rfl (.cons rfl (.nil _)) (fun _ h => h))
        refine o_move rfl rfl ?_
        refine' triL_and [_, _, _] [(1, _)] (dj := 40) (dr := 43) rfl rfl (fun g4 => ?_) ⟨_, rfl, rfl, rfl, (.cons rfl (.nil _))⟩ rfl ?_
        rotate_left
        · skip
          refine o_field fo28_1 rfl rfl ?_
          refine o_load agg2 (by first | exact Nth.z | exact .s .z | exact .s (.s .z) | exact .s (.s (.s .z)) | exact .s (.s (.s (.s .z))) | exact .s (.s (.s (.s (.s .z)))) | exact .s (.s (.s (.s (.s (.s .z))))) | exact .s (.s (.s (.s (.s (.s (.s .z))))))) rfl rfl rfl ?_
          refine o_geq rfl rfl rfl ?_
          exact triL_nil (Piece.mk rfl rfl (.cons rfl (.nil _)) (fun _ h => h))
        refine o_move rfl rfl ?_
        refine' triL_and [_, _, _] [] (dj := 45) (dr := 48) rfl rfl (fun g5 => ?_) ⟨_, rfl, rfl, rfl, (.nil _)⟩ rfl ?_
        rotate_left
        · skip
          refine o_field fo28_1 rfl rfl ?_
          refine o_load agg2 (by first | exact Nth.z | exact .s .z | exact .s (.s .z) | exact .s (.s (.s .z)) | exact .s (.s (.s (.s .z))) | exact .s (.s (.s (.s (.s .z)))) | exact .s (.s (.s (.s (.s (.s .z))))) | exact .s (.s (.s (.s (.s (.s (.s .z))))))) rfl rfl rfl ?_
          refine o_leq rfl rfl rfl ?_
          exact triL_nil (Piece.mk rfl rfl (.nil _) (fun _ h => h))
        refine o_assign rfl rfl ?_
        refine triL_nil ?_
        refine thenQ_normal ?_
        refine tri_ret ?_
        refine end1 rfl rfl ?_
        exact fun w1 hw1 => ⟨congrArg (fun b => Ending.returned (.bool b)) (by simp [may, val_dec, *] <;> simp only [Bool.and_assoc, e01]), hw1.chg⟩

theorem same4 (A : Option Addr) (n c : Nat) (l : List Val) (A2 : Option Addr) (n2 c2 : Nat) (l2 : List Val) (w : World) (hr : Rd w A (valsV l)) (hn : l.length = n) (hm : n ≤ 5864062014805) (hr2 : Rd w A2 (valsV l2)) (hn2 : l2.length = n2) (hm2 : n2 ≤ 5864062014805) : Calls Try.prog 10 #[.slice A n c, .slice A2 n2 c2] w (Pure w (.bool (decide (l = l2)))) := by
  refine calls_tri (args := [.slice A n c, .slice A2 n2 c2]) (lent := []) (H := []) Try.func10 rfl Try.ntmps10 rfl (Sat.start _ _ _ _) ?_
  refine (show Tri _ [(0, _), (1, _)] _ _ _ from ?_)
  have hR : ∀ cx H, cx.w0 = w → cx.lent = [] → RdS cx H A (valsV l) := fun cx H h1 h2 => RdS.arg (by rw [h1]; exact hr) h2
  have hR2 : ∀ cx H, cx.w0 = w → cx.lent = [] → RdS cx H A2 (valsV l2) := fun cx H h1 h2 => RdS.arg (by rw [h1]; exact hr2) h2
  refine tri_seq ?_
  refine tri_region ?_
  refine o_assign rfl rfl ?_
  refine triL_nil ?_
  refine thenQ_normal ?_
  refine tri_seq ?_
  refine tri_seq ?_
  refine tri_region ?_
  refine o_move rfl rfl ?_
  refine o_lenS Try.underlying22 rfl rfl ?_
  refine o_move rfl rfl ?_
  refine o_lenS Try.underlying22 rfl rfl ?_
  refine o_neqI rfl rfl rfl ?_
  refine triL_nil ?_
  refine thenQ_normal ?_
  refine tri_if rfl (fun h1 => ?_) (fun h1 => ?_)
  · skip
    refine tri_seq ?_
    refine tri_slots [] (.nil _) ?_
    refine tri_region ?_
    refine o_assign rfl rfl ?_
    refine triL_nil ?_
    refine thenQ_normal ?_
    refine tri_ret ?_
    refine thenQ_ret ?_
    refine end1 rfl rfl ?_
    exact fun w1 hw1 => ⟨congrArg (fun b => Ending.returned (.bool b)) (by exact (decide_eq_false (fun e => h1 (by rw [e] at hn; omega))).symm), hw1.chg⟩
  · skip
    refine tri_skip ?_
    refine thenQ_normal ?_
    refine tri_seq ?_
    refine tri_seq ?_
    refine tri_slots [(0, _), (1, _)] (.cons rfl (.cons rfl (.nil _))) ?_
    refine tri_region ?_
    refine o_assign rfl rfl ?_
    refine triL_nil ?_
    refine thenQ_normal ?_
    refine tri_block ?_
    refine tri_loop (ι := Nat) (F := fun i => [(0, .slice A n c), (1, .slice A2 n2 c2), (5, .int .i64 (i : Int))]) (HH := fun i => []) (Pu := fun i => i ≤ n ∧ l.take i = l2.take i) (μ := fun i => n - i) (0) (.cons rfl (.cons rfl (.cons rfl (.nil _)))) (fun _ h => h) (⟨by omega, rfl⟩) (fun i hi => ?_)
    refine tri_seq ?_
    refine tri_seq ?_
    refine tri_region ?_
    refine o_move rfl rfl ?_
    refine o_move rfl rfl ?_
    refine o_lenS Try.underlying22 rfl rfl ?_
    refine o_lss rfl rfl rfl ?_
    refine triL_nil ?_
    refine thenQ_normal ?_
    refine tri_if rfl (fun h2 => ?_) (fun h2 => ?_)
    · skip
      refine tri_skip ?_
      refine thenQ_normal ?_
      refine tri_seq ?_
      refine tri_block ?_
      refine tri_seq ?_
      refine tri_slots [(0, _), (1, _), (5, _)] (.cons rfl (.cons rfl (.cons rfl (.nil _)))) ?_
      refine tri_quiet (by kernel_rfl) (by kernel_rfl) ?_
      refine o_move rfl rfl ?_
      refine o_move rfl rfl ?_
      refine o_idxS Try.underlying22 sz28 rfl rfl rfl (hR _ _ rfl rfl) (by omega) (by omega) (by rw [valsV_length]; omega) (by decide) ?_
      refine o_loadV i agg28 sz28 rfl rfl (hR _ _ rfl rfl) (by omega) (by omega) ?_
      refine o_move rfl rfl ?_
      refine o_move rfl rfl ?_
      refine o_idxS Try.underlying22 sz28 rfl rfl rfl (hR2 _ _ rfl rfl) (by omega) (by omega) (by rw [valsV_length]; omega) (by decide) ?_
      refine o_loadV i agg28 sz28 rfl rfl (hR2 _ _ rfl rfl) (by omega) (by omega) ?_
      refine o_neqV flat28 rfl rfl rfl ?_
      refine triL_nil ?_
      refine thenQ_normal ?_
      refine tri_cond rfl (fun h3 => ?_) (fun h3 => ?_)
      · skip
        refine tri_seq ?_
        refine tri_slots [] (.nil _) ?_
        refine tri_region ?_
        refine o_assign rfl rfl ?_
        refine triL_nil ?_
        refine thenQ_normal ?_
        refine tri_ret ?_
        refine blockQ_ret ?_
        refine thenQ_ret ?_
        refine thenQ_ret ?_
        refine blockQ_ret ?_
        refine thenQ_ret ?_
        refine end1 rfl rfl ?_
        exact fun w1 hw1 => ⟨congrArg (fun b => Ending.returned (.bool b)) (by have h4 : l.getD i Val.zero ≠ l2.getD i Val.zero := (by simpa using h3); exact (decide_eq_false (fun e => h4 (by rw [e]))).symm), hw1.chg⟩
      · skip
        refine tri_skip ?_
        refine blockQ_normal ?_
        refine thenQ_normal ?_
        refine tri_slots [(0, _), (1, _), (5, _)] (.cons rfl (.cons rfl (.cons rfl (.nil _)))) ?_
        refine tri_region ?_
        refine o_move rfl rfl ?_
        refine o_addN rfl rfl rfl (by omega) ?_
        refine o_assign rfl rfl ?_
        refine triL_nil ?_
        refine thenQ_normal ?_
        exact ⟨i + 1, (.cons rfl (.cons rfl (.cons rfl (.nil _)))), fun _ h => h, ⟨by omega, by rw [take_snocV l i (by omega), take_snocV l2 i (by omega), hi.2]; simpa using h3⟩, by omega⟩
    · skip
      refine tri_exit ?_
      refine thenQ_exit ?_
      refine thenQ_exit ?_
      refine blockQ_here ?_
      refine thenQ_normal ?_
      refine tri_seq ?_
      refine tri_slots [] (.nil _) ?_
      refine tri_region ?_
      refine o_assign rfl rfl ?_
      refine triL_nil ?_
      refine thenQ_normal ?_
      refine tri_ret ?_
      refine end1 rfl rfl ?_
      exact fun w1 hw1 => ⟨congrArg (fun b => Ending.returned (.bool b)) (by have h4 : i = n := (by omega); rw [h4, List.take_of_length_le (by omega), List.take_of_length_le (by omega)] at hi; exact (decide_eq_true hi.2).symm), hw1.chg⟩

theorem order4 (A : Option Addr) (n c : Nat) (l : List Val) (A2 : Option Addr) (n2 c2 : Nat) (l2 : List Val) (w : World) (hr : Rd w A (valsV l)) (hn : l.length = n) (hm : n ≤ 5864062014805) (hr2 : Rd w A2 (valsV l2)) (hn2 : l2.length = n2) (hm2 : n2 ≤ 5864062014805) (hs : ∀ v ∈ l, v.s.length ≤ 140737488355328) (hs2 : ∀ v ∈ l2, v.s.length ≤ 140737488355328) : Calls Try.prog 14 #[.slice A n c, .slice A2 n2 c2] w (Pure w (.int .i64 (cmpR l l2))) := by
  refine calls_tri (args := [.slice A n c, .slice A2 n2 c2]) (lent := []) (H := []) Try.func14 rfl Try.ntmps14 rfl (Sat.start _ _ _ _) ?_
  refine (show Tri _ [(0, _), (1, _)] _ _ _ from ?_)
  have hR : ∀ cx H, cx.w0 = w → cx.lent = [] → RdS cx H A (valsV l) := fun cx H h1 h2 => RdS.arg (by rw [h1]; exact hr) h2
  have hR2 : ∀ cx H, cx.w0 = w → cx.lent = [] → RdS cx H A2 (valsV l2) := fun cx H h1 h2 => RdS.arg (by rw [h1]; exact hr2) h2
  refine tri_seq ?_
  refine tri_region ?_
  refine o_assign rfl rfl ?_
  refine triL_nil ?_
  refine thenQ_normal ?_
  refine tri_seq ?_
  refine tri_seq ?_
  refine tri_region ?_
  refine o_assign rfl rfl ?_
  refine triL_nil ?_
  refine thenQ_normal ?_
  refine tri_block ?_
  refine tri_loop (ι := Nat) (F := fun i => [(0, .slice A n c), (1, .slice A2 n2 c2), (5, .int .i64 (i : Int))]) (HH := fun i => []) (Pu := fun i => i ≤ n ∧ i ≤ n2 ∧ cmpR l l2 = cmpR (l.drop i) (l2.drop i)) (μ := fun i => n - i) (0) (.cons rfl (.cons rfl (.cons rfl (.nil _)))) (fun _ h => h) (⟨by omega, by omega, rfl⟩) (fun i hi => ?_)
  refine tri_seq ?_
  refine tri_seq ?_
  refine tri_region ?_
  refine o_move rfl rfl ?_
  refine o_move rfl rfl ?_
  refine o_lenS Try.underlying22 rfl rfl ?_
  refine o_lss rfl rfl rfl ?_
  refine o_move rfl rfl ?_
  refine' triL_and [_, _, _, _] [(0, _), (1, _), (5, _)] (dj := 11) (dr := 15) rfl rfl (fun g1 => ?_) ⟨_, rfl, rfl, rfl, (.cons rfl (.cons rfl (.cons rfl (.nil _))))⟩ rfl ?_
  rotate_left
  · skip
    have g1 := of_decide_eq_true g1
    refine o_move rfl rfl ?_
    refine o_move rfl rfl ?_
    refine o_lenS Try.underlying22 rfl rfl ?_
    refine o_lss rfl rfl rfl ?_
    exact triL_nil (Piece.mk rfl rfl (.cons rfl (.cons rfl (.cons rfl (.nil _)))) (fun _ h => h))
  refine triL_nil ?_
  refine thenQ_normal ?_
  refine tri_cond rfl (fun h1 => ?_) (fun h1 => ?_)
  · skip
    simp only [Bool.and_eq_true, decide_eq_true_eq] at h1
    have e := cmpR_drop l l2 i (by omega) (by omega)
    refine tri_skip ?_
    refine thenQ_normal ?_
    refine tri_seq ?_
    refine tri_block ?_
    refine tri_seq ?_
    refine tri_quiet (by kernel_rfl) (by kernel_rfl) ?_
    refine o_move rfl rfl ?_
    refine o_move rfl rfl ?_
    refine o_idxS Try.underlying22 sz28 rfl rfl rfl (hR _ _ rfl rfl) (by omega) (by omega) (by rw [valsV_length]; omega) (by decide) ?_
    refine o_loadV i agg28 sz28 rfl rfl (hR _ _ rfl rfl) (by omega) (by omega) ?_
    refine o_move rfl rfl ?_
    refine o_move rfl rfl ?_
    refine o_idxS Try.underlying22 sz28 rfl rfl rfl (hR2 _ _ rfl rfl) (by omega) (by omega) (by rw [valsV_length]; omega) (by decide) ?_
    refine o_loadV i agg28 sz28 rfl rfl (hR2 _ _ rfl rfl) (by omega) (by omega) ?_
    refine o_callP (first := []) (cap := []) rfl rfl rfl Try.call26 (fun w1 h1 => order3 (l.getD i Val.zero) (l2.getD i Val.zero) w1 (hs _ (getD_mem _ _ (by omega))) (hs2 _ (getD_mem _ _ (by omega)))) ?_
    refine o_assign rfl rfl ?_
    refine triL_nil ?_
    refine thenQ_normal ?_
    refine tri_seq ?_
    refine tri_slots [(6, _), (0, _), (1, _), (5, _)] (.cons rfl (.cons rfl (.cons rfl (.cons rfl (.nil _))))) ?_
    refine tri_region ?_
    refine o_move rfl rfl ?_
    refine o_neqI rfl rfl rfl ?_
    refine triL_nil ?_
    refine thenQ_normal ?_
    refine tri_if rfl (fun h2 => ?_) (fun h2 => ?_)
    · skip
      refine tri_seq ?_
      refine tri_slots [(6, _)] (.cons rfl (.nil _)) ?_
      refine tri_region ?_
      refine o_move rfl rfl ?_
      refine o_assign rfl rfl ?_
      refine triL_nil ?_
      refine thenQ_normal ?_
      refine tri_ret ?_
      refine blockQ_ret ?_
      refine thenQ_ret ?_
      refine thenQ_ret ?_
      refine blockQ_ret ?_
      refine thenQ_ret ?_
      refine end1 rfl rfl ?_
      exact fun w1 hw1 => ⟨congrArg (fun b => Ending.returned (.int .i64 b)) (by rw [hi.2.2, e, if_neg (by simpa using h2)]), hw1.chg⟩
    · skip
      refine tri_skip ?_
      refine blockQ_normal ?_
      refine thenQ_normal ?_
      refine tri_region ?_
      refine o_move rfl rfl ?_
      refine o_addN rfl rfl rfl (by omega) ?_
      refine o_assign rfl rfl ?_
      refine triL_nil ?_
      refine thenQ_normal ?_
      exact ⟨i + 1, (.cons rfl (.cons rfl (.cons rfl (.nil _)))), fun _ h => h, ⟨by omega, by omega, by rw [hi.2.2, e, if_pos (by simpa using h2)]⟩, by omega⟩
  · skip
    simp only [Bool.and_eq_false_iff, decide_eq_false_iff_not] at h1
    have e := cmpR_end l l2 i (by omega) (by omega) (by omega)
    rw [hn, hn2] at e
    refine tri_exit ?_
    refine thenQ_exit ?_
    refine thenQ_exit ?_
    refine blockQ_here ?_
    refine thenQ_normal ?_
    refine tri_seq ?_
    refine tri_seq ?_
    refine tri_region ?_
    refine o_move rfl rfl ?_
    refine o_lenS Try.underlying22 rfl rfl ?_
    refine o_move rfl rfl ?_
    refine o_lenS Try.underlying22 rfl rfl ?_
    refine o_lss rfl rfl rfl ?_
    refine triL_nil ?_
    refine thenQ_normal ?_
    refine tri_if rfl (fun h3 => ?_) (fun h3 => ?_)
    · skip
      refine tri_seq ?_
      refine tri_slots [] (.nil _) ?_
      refine tri_region ?_
      refine o_assign rfl rfl ?_
      refine triL_nil ?_
      refine thenQ_normal ?_
      refine tri_ret ?_
      refine thenQ_ret ?_
      refine end1 rfl rfl ?_
      exact fun w1 hw1 => ⟨congrArg (fun b => Ending.returned (.int .i64 b)) (by rw [hi.2.2, e, if_pos (by omega)]), hw1.chg⟩
    · skip
      refine tri_skip ?_
      refine thenQ_normal ?_
      refine tri_seq ?_
      refine tri_seq ?_
      refine tri_slots [(0, _), (1, _)] (.cons rfl (.cons rfl (.nil _))) ?_
      refine tri_region ?_
      refine o_move rfl rfl ?_
      refine o_lenS Try.underlying22 rfl rfl ?_
      refine o_move rfl rfl ?_
      refine o_lenS Try.underlying22 rfl rfl ?_
      refine o_gtr rfl rfl rfl ?_
      refine triL_nil ?_
      refine thenQ_normal ?_
      refine tri_if rfl (fun h4 => ?_) (fun h4 => ?_)
      · skip
        refine tri_seq ?_
        refine tri_slots [] (.nil _) ?_
        refine tri_region ?_
        refine o_assign rfl rfl ?_
        refine triL_nil ?_
        refine thenQ_normal ?_
        refine tri_ret ?_
        refine thenQ_ret ?_
        refine end1 rfl rfl ?_
        exact fun w1 hw1 => ⟨congrArg (fun b => Ending.returned (.int .i64 b)) (by rw [hi.2.2, e, if_neg (by omega), if_pos (by omega)]), hw1.chg⟩
      · skip
        refine tri_skip ?_
        refine thenQ_normal ?_
        refine tri_seq ?_
        refine tri_slots [] (.nil _) ?_
        refine tri_region ?_
        refine o_assign rfl rfl ?_
        refine triL_nil ?_
        refine thenQ_normal ?_
        refine tri_ret ?_
        refine end1 rfl rfl ?_
        exact fun w1 hw1 => ⟨congrArg (fun b => Ending.returned (.int .i64 b)) (by rw [hi.2.2, e, if_neg (by omega), if_neg (by omega)]), hw1.chg⟩

theorem lent4 (A : Option Addr) (n c : Nat) (l : List Val) (w : World) (hr : Rd w A (valsV l)) (hn : l.length = n) (hm : n ≤ 5864062014805) (hm4 : n ≤ 4398046510976) : Calls Try.prog 13 #[.slice A n c] w (NewRowF less1 w 28 3 (n + 1) (valsV (l ++ [⟨77, 0, []⟩]))) := by
  refine calls_tri (args := [.slice A n c]) (lent := []) (H := []) Try.func13 rfl Try.ntmps13 rfl (Sat.start _ _ _ _) ?_
  refine (show Tri _ [(0, _)] _ _ _ from ?_)
  have hR : ∀ cx H, cx.w0 = w → cx.lent = [] → RdS cx H A (valsV l) := fun cx H h1 h2 => RdS.arg (by rw [h1]; exact hr) h2
  refine tri_seq ?_
  refine tri_region ?_
  refine o_assign rfl rfl ?_
  refine triL_nil ?_
  refine thenQ_normal ?_
  refine tri_seq ?_
  refine tri_region ?_
  refine o_lit (parts := []) [] Try.underlying22 zs28 rfl rfl rfl rfl (by decide) (by decide) (fun b4 => ?_)
  refine o_move rfl rfl ?_
  refine o_append Try.underlying22 zsb28 rfl (by decide) (by first | exact Nth.z | exact .s .z | exact .s (.s .z) | exact .s (.s (.s .z)) | exact .s (.s (.s (.s .z))) | exact .s (.s (.s (.s (.s .z)))) | exact .s (.s (.s (.s (.s (.s .z))))) | exact .s (.s (.s (.s (.s (.s (.s .z))))))) rfl rfl rfl (hR _ _ rfl rfl) (by rw [valsV_length]; omega) (valsV_one _) (by unfold maxLen; omega) (by omega) (fun A6 c6 => ?_)
  refine o_assign rfl rfl ?_
  refine triL_nil ?_
  refine thenQ_normal ?_
  refine tri_seq ?_
  refine tri_slots [(3, _), (0, _)] (.cons rfl (.cons rfl (.nil _))) ?_
  refine tri_region ?_
  refine o_move rfl rfl ?_
  refine o_build (bval28_0 _) rfl rfl ?_
  refine o_lit1 Try.underlying22 zs28 rfl rfl rfl rfl rfl (by decide) (by decide) (fun b9 => ?_)
  refine o_append Try.underlying22 zsb28 rfl (by decide) (by first | exact Nth.z | exact .s .z | exact .s (.s .z) | exact .s (.s (.s .z)) | exact .s (.s (.s (.s .z))) | exact .s (.s (.s (.s (.s .z)))) | exact .s (.s (.s (.s (.s (.s .z))))) | exact .s (.s (.s (.s (.s (.s (.s .z))))))) rfl rfl rfl (news := valsV [⟨77, 0, []⟩]) (RdS.row .z) rfl (valsV_one _) (by unfold maxLen; omega) (by omega) (fun A10 c10 => ?_)
  refine TriX.know (fun w1 h1 => own_cap (h1.holds _ (Nth.s Nth.z).mem)) (fun hc10 => ?_)
  refine o_assign rfl rfl ?_
  refine triL_nil ?_
  refine thenQ_normal ?_
  refine tri_seq ?_
  refine tri_slots [(3, _), (0, _)] (.cons rfl (.cons rfl (.nil _))) ?_
  refine tri_region ?_
  refine o_move rfl rfl ?_
  refine o_move rfl rfl ?_
  refine o_lenS Try.underlying22 rfl rfl ?_
  refine o_sliceSh Try.underlying22 sz28 rfl rfl rfl (by omega) (by omega) ?_
  refine o_assign rfl rfl ?_
  refine triL_nil ?_
  refine thenQ_normal ?_
  refine tri_ret ?_
  refine end1 rfl rfl ?_
  have e : [] ++ valsV l ++ valsV [⟨77, 0, []⟩] = valsV (l ++ [⟨77, 0, []⟩]) := by rw [valsV_append]; rfl
  rw [e]
  rw [show (0 + n + 1 : Nat) = n + 1 by omega]
  exact fin_row less1 (.s .z)

theorem kept4 (A : Option Addr) (n c : Nat) (l : List Val) (m : Val) (A2 : Option Addr) (n2 c2 : Nat) (l2 : List Val) (w : World) (hr : Rd w A (valsV (l ++ [m]))) (hn : l.length = n) (hm : n ≤ 5864062014805) (hc : n + 1 ≤ c) (hr2 : Rd w A2 (valsV l2)) (hn2 : l2.length = n2) (hm2 : n2 ≤ 5864062014805) : Calls Try.prog 18 #[.slice A n c, .slice A2 n2 c2] w (Pure w (.bool (decide (l = l2) && decide (m = ⟨77, 0, []⟩)))) := by
  refine calls_tri (args := [.slice A n c, .slice A2 n2 c2]) (lent := []) (H := []) Try.func18 rfl Try.ntmps18 rfl (Sat.start _ _ _ _) ?_
  refine (show Tri _ [(0, _), (1, _)] _ _ _ from ?_)
  have hR : ∀ cx H, cx.w0 = w → cx.lent = [] → RdS cx H A (valsV (l ++ [m])) := fun cx H h1 h2 => RdS.arg (by rw [h1]; exact hr) h2
  have hR2 : ∀ cx H, cx.w0 = w → cx.lent = [] → RdS cx H A2 (valsV l2) := fun cx H h1 h2 => RdS.arg (by rw [h1]; exact hr2) h2
  refine tri_seq ?_
  refine tri_region ?_
  refine o_assign rfl rfl ?_
  refine triL_nil ?_
  refine thenQ_normal ?_
  refine tri_seq ?_
  refine tri_region ?_
  refine o_move rfl rfl ?_
  refine o_move rfl rfl ?_
  refine o_callP (first := []) (cap := []) rfl rfl rfl Try.call10 (fun w1 h1 => same4 A n c l A2 n2 c2 l2 w1 (by have h := (h1.rd (hR _ _ rfl rfl)).take (n * 3); rw [valsV_take, ← hn, List.take_left] at h; exact h) hn hm (h1.rd (hR2 _ _ rfl rfl)) hn2 hm2) ?_
  refine o_move rfl rfl ?_
  refine' triL_and [_, _, _, _, _, _, _, _, _, _, _] [(4, _)] (dj := 8) (dr := 19) rfl rfl (fun g1 => ?_) ⟨_, rfl, rfl, rfl, (.cons rfl (.nil _))⟩ rfl ?_
  rotate_left
  · skip
    have g4 := of_decide_eq_true g1
    have g5 : n = n2 := by rw [← hn, ← hn2, g4]
    refine o_move rfl rfl ?_
    refine o_move rfl rfl ?_
    refine o_lenS Try.underlying22 rfl rfl ?_
    refine o_addN rfl rfl rfl (by omega) ?_
    refine o_sliceSh Try.underlying22 sz28 rfl rfl rfl (by omega) (by omega) ?_
    refine o_move rfl rfl ?_
    refine o_lenS Try.underlying22 rfl rfl ?_
    refine o_idxS Try.underlying22 sz28 rfl rfl rfl (hR _ _ rfl rfl) (by omega) (by omega) (by rw [valsV_length]; simp; omega) (by decide) ?_
    refine o_loadV n agg28 sz28 rfl rfl (hR _ _ rfl rfl) (by omega) (by simp; omega) ?_
    refine o_build (bval28_0 _) rfl rfl ?_
    refine o_eqlV flat28 rfl rfl rfl ?_
    exact triL_nil (Piece.mk rfl rfl (.cons rfl (.nil _)) (fun _ h => h))
  refine o_assign rfl rfl ?_
  refine triL_nil ?_
  refine thenQ_normal ?_
  refine tri_ret ?_
  refine end1 rfl rfl ?_
  exact fun w1 hw1 => ⟨congrArg (fun b => Ending.returned (.bool b)) (by have e : (l ++ [m]).getD n Val.zero = m := (by simp [List.getD, ← hn]); rw [e]), hw1.chg⟩

theorem begins4 (A : Option Addr) (n c : Nat) (l : List Val) (A2 : Option Addr) (n2 c2 : Nat) (l2 : List Val) (w : World) (hr : Rd w A (valsV l)) (hn : l.length = n) (hm : n ≤ 5864062014805) (hr2 : Rd w A2 (valsV l2)) (hn2 : l2.length = n2) (hm2 : n2 ≤ 5864062014805) (hc : n ≤ c) : Calls Try.prog 19 #[.slice A n c, .slice A2 n2 c2] w (Pure w (.bool (decide (n2 ≤ n) && decide (l.take n2 = l2)))) := by
  refine calls_tri (args := [.slice A n c, .slice A2 n2 c2]) (lent := []) (H := []) Try.func19 rfl Try.ntmps19 rfl (Sat.start _ _ _ _) ?_
  refine (show Tri _ [(0, _), (1, _)] _ _ _ from ?_)
  have hR : ∀ cx H, cx.w0 = w → cx.lent = [] → RdS cx H A (valsV l) := fun cx H h1 h2 => RdS.arg (by rw [h1]; exact hr) h2
  have hR2 : ∀ cx H, cx.w0 = w → cx.lent = [] → RdS cx H A2 (valsV l2) := fun cx H h1 h2 => RdS.arg (by rw [h1]; exact hr2) h2
  refine tri_seq ?_
  refine tri_region ?_
  refine o_assign rfl rfl ?_
  refine triL_nil ?_
  refine thenQ_normal ?_
  refine tri_seq ?_
  refine tri_region ?_
  refine o_move rfl rfl ?_
  refine o_lenS Try.underlying22 rfl rfl ?_
  refine o_move rfl rfl ?_
  refine o_lenS Try.underlying22 rfl rfl ?_
  refine o_leq rfl rfl rfl ?_
  refine o_move rfl rfl ?_
  refine' triL_and [_, _, _, _, _, _] [(4, _)] (dj := 10) (dr := 16) rfl rfl (fun g1 => ?_) ⟨_, rfl, rfl, rfl, (.cons rfl (.nil _))⟩ rfl ?_
  rotate_left
  · skip
    have g1 := of_decide_eq_true g1
    refine o_move rfl rfl ?_
    refine o_move rfl rfl ?_
    refine o_lenS Try.underlying22 rfl rfl ?_
    refine o_sliceSh Try.underlying22 sz28 rfl rfl rfl (by omega) (by omega) ?_
    refine o_move rfl rfl ?_
    refine o_callP (first := []) (cap := []) rfl rfl rfl Try.call10 (fun w1 h1 => same4 A n2 c (l.take n2) A2 n2 c2 l2 w1 (by have h := (h1.rd (hR _ _ rfl rfl)).take (n2 * 3); rw [valsV_take] at h; exact h) (by simp; omega) (by omega) (h1.rd (hR2 _ _ rfl rfl)) hn2 hm2) ?_
    exact triL_nil (Piece.mk rfl rfl (.cons rfl (.nil _)) (fun _ h => h))
  refine o_assign rfl rfl ?_
  refine triL_nil ?_
  refine thenQ_normal ?_
  refine tri_ret ?_
  refine end1 rfl rfl ?_
  exact fun w1 hw1 => ⟨congrArg (fun b => Ending.returned (.bool b)) (by rw [le_dec]), hw1.chg⟩

theorem putK (A : Option Addr) (n c : Nat) (l : List UInt8) (v : Val) (w : World) (hs : Sat ⟨Try.prog, 73, [], w, (Value.slice A n c).ownBlock.toList⟩ [row (.slice A n c) 5 1 n (bytesV l)] w) (hn : n ≤ 100000) (hv : may v = true) (ho : v.ok) : Calls Try.prog 25 #[.slice A n c, aggV v] w (Turn w (Value.slice A n c).ownBlock.toList (fun j : Option Addr × Nat => .slice j.1 (n + (one v).length) j.2) (fun j => [row (.slice j.1 (n + (one v).length) j.2) 5 1 (n + (one v).length) (bytesV (l ++ one v))]) (fun _ => True)) := by
  refine calls_tri (args := [.slice A n c, aggV v]) (lent := (Value.slice A n c).ownBlock.toList) (H := [row (.slice A n c) 5 1 n (bytesV l)]) Try.func25 rfl Try.ntmps25 rfl hs ?_
  refine (show Tri _ [(0, _), (1, _)] _ _ _ from ?_)
  refine tri_seq ?_
  refine tri_region ?_
  refine o_box (Val.cs _) rfl rfl rfl (fun b3 => ?_)
  refine o_assign rfl rfl ?_
  refine triL_nil ?_
  refine thenQ_normal ?_
  refine tri_seq ?_
  refine tri_seq ?_
  refine tri_region ?_
  refine o_field fo28_0 rfl rfl ?_
  refine o_load agg3 (by first | exact Nth.z | exact .s .z | exact .s (.s .z) | exact .s (.s (.s .z)) | exact .s (.s (.s (.s .z))) | exact .s (.s (.s (.s (.s .z)))) | exact .s (.s (.s (.s (.s (.s .z))))) | exact .s (.s (.s (.s (.s (.s (.s .z))))))) rfl rfl rfl ?_
  refine triL_nil ?_
  refine thenQ_normal ?_
  refine tri_block ?_
  refine tri_seq ?_
  refine tri_region ?_
  refine o_eqlI rfl rfl rfl ?_
  refine o_assign rfl rfl ?_
  refine triL_nil ?_
  refine thenQ_normal ?_
  refine tri_if rfl (fun k3 => ?_) (fun k3 => ?_)
  · skip
    have hm := may_bool hv k3
    refine tri_seq ?_
    refine tri_slots [(3, _), (0, _)] (.cons rfl (.cons rfl (.nil _))) ?_
    refine tri_region ?_
    refine o_move rfl rfl ?_
    refine o_field fo28_1 rfl rfl ?_
    refine o_load agg2 (by first | exact Nth.z | exact .s .z | exact .s (.s .z) | exact .s (.s (.s .z)) | exact .s (.s (.s (.s .z))) | exact .s (.s (.s (.s (.s .z)))) | exact .s (.s (.s (.s (.s (.s .z))))) | exact .s (.s (.s (.s (.s (.s (.s .z))))))) rfl rfl rfl ?_
    refine o_addN rfl rfl rfl (by omega) ?_
    refine o_toByte rfl rfl Try.underlying2 Try.underlying5 (by omega) ?_
    refine o_lit1 Try.underlying44 zs5 rfl rfl rfl rfl rfl (by decide) (by decide) (fun b17 => ?_)
    refine o_append Try.underlying44 zsb5 rfl (by decide) (by first | exact Nth.z | exact .s .z | exact .s (.s .z) | exact .s (.s (.s .z)) | exact .s (.s (.s (.s .z))) | exact .s (.s (.s (.s (.s .z)))) | exact .s (.s (.s (.s (.s (.s .z))))) | exact .s (.s (.s (.s (.s (.s (.s .z))))))) rfl rfl rfl (news := bytesV [UInt8.ofNat (2 + v.n).toNat]) (RdS.row .z) rfl (bytesV_one _) (by unfold maxLen; omega) (by omega) (fun A18 c18 => ?_)
    refine o_assign rfl rfl ?_
    refine triL_nil ?_
    refine thenQ_normal ?_
    refine tri_ret ?_
    refine blockQ_ret ?_
    refine thenQ_ret ?_
    refine end1 rfl rfl ?_
    have e : one v = [UInt8.ofNat (2 + v.n).toNat] := by simp [one, *]
    exact fin_turn ((A18, c18)) (by rw [e]; rfl) trivial (fun w1 hw1 => by rw [e, bytesV_append]; exact hw1.tail.tail)
  · skip
    refine tri_seq ?_
    refine tri_slots [(9, _), (3, _), (0, _)] (.cons rfl (.cons rfl (.cons rfl (.nil _)))) ?_
    refine tri_region ?_
    refine o_eqlI rfl rfl rfl ?_
    refine o_assign rfl rfl ?_
    refine triL_nil ?_
    refine thenQ_normal ?_
    refine tri_if rfl (fun k1 => ?_) (fun k1 => ?_)
    · skip
      refine tri_seq ?_
      refine tri_region ?_
      refine o_move rfl rfl ?_
      refine o_lit1 Try.underlying44 zs5 rfl rfl rfl rfl rfl (by decide) (by decide) (fun b22 => ?_)
      refine o_append Try.underlying44 zsb5 rfl (by decide) (by first | exact Nth.z | exact .s .z | exact .s (.s .z) | exact .s (.s (.s .z)) | exact .s (.s (.s (.s .z))) | exact .s (.s (.s (.s (.s .z)))) | exact .s (.s (.s (.s (.s (.s .z))))) | exact .s (.s (.s (.s (.s (.s (.s .z))))))) rfl rfl rfl (news := bytesV [4]) (RdS.row .z) rfl (bytesV_one _) (by unfold maxLen; omega) (by omega) (fun A23 c23 => ?_)
      refine o_assign rfl rfl ?_
      refine triL_nil ?_
      refine thenQ_normal ?_
      refine tri_seq ?_
      refine tri_slots [(0, _), (3, _)] (.cons rfl (.cons rfl (.nil _))) ?_
      refine tri_region ?_
      refine o_field fo28_1 rfl rfl ?_
      refine o_load agg2 (by first | exact Nth.z | exact .s .z | exact .s (.s .z) | exact .s (.s (.s .z)) | exact .s (.s (.s (.s .z))) | exact .s (.s (.s (.s (.s .z)))) | exact .s (.s (.s (.s (.s (.s .z))))) | exact .s (.s (.s (.s (.s (.s (.s .z))))))) rfl rfl rfl ?_
      refine o_conv rfl rfl Try.underlying2 Try.underlying48 ?_
      refine o_flip64 rfl rfl rfl ho.2.1 ho.2.2 ?_
      refine o_assign rfl rfl ?_
      refine triL_nil ?_
      refine thenQ_normal ?_
      refine tri_seq ?_
      refine tri_seq ?_
      refine tri_slots [(5, _), (0, _)] (.cons rfl (.cons rfl (.nil _))) ?_
      refine tri_region ?_
      refine o_assign rfl rfl ?_
      refine triL_nil ?_
      refine thenQ_normal ?_
      refine tri_block ?_
      refine tri_loop (ι := Nat × Option Addr × Nat) (F := fun j => [(0, .slice j.2.1 (n + 1 + j.1) j.2.2), (5, .int .u64 (up v.n : Int)), (6, .int .i64 (56 - 8 * (j.1 : Int)))]) (HH := fun j => [box b3 28 v.cs, row (.slice j.2.1 (n + 1 + j.1) j.2.2) 5 1 (n + 1 + j.1) (bytesV (l ++ 4 :: (beN 8 (up v.n)).take j.1))]) (Pu := fun j => j.1 ≤ 8) (μ := fun j => 8 - j.1) ((0, A23, c23)) (.cons rfl (.cons rfl (.cons rfl (.nil _)))) (fun w1 hw1 => by have := hw1.tail; rw [bytesV_append]; exact this) (Nat.zero_le _) (fun j hi => ?_)
      refine tri_seq ?_
      refine tri_seq ?_
      refine tri_region ?_
      refine o_move rfl rfl ?_
      refine o_geq rfl rfl rfl ?_
      refine triL_nil ?_
      refine thenQ_normal ?_
      refine tri_if rfl (fun h8 => ?_) (fun h8 => ?_)
      · skip
        refine tri_skip ?_
        refine thenQ_normal ?_
        refine tri_seq ?_
        refine tri_block ?_
        refine tri_region ?_
        refine o_move rfl rfl ?_
        refine o_move rfl rfl ?_
        refine o_move rfl rfl ?_
        refine o_shrB _ (7 - j.1) rfl rfl rfl (by omega) (by omega) ?_
        refine o_toByte rfl rfl Try.underlying48 Try.underlying5 (Int.natCast_nonneg _) ?_
        refine o_lit1 Try.underlying44 zs5 rfl rfl rfl rfl rfl (by decide) (by decide) (fun b37 => ?_)
        refine o_append Try.underlying44 zsb5 rfl (by decide) (by first | exact Nth.z | exact .s .z | exact .s (.s .z) | exact .s (.s (.s .z)) | exact .s (.s (.s (.s .z))) | exact .s (.s (.s (.s (.s .z)))) | exact .s (.s (.s (.s (.s (.s .z))))) | exact .s (.s (.s (.s (.s (.s (.s .z))))))) rfl rfl rfl (news := bytesV [UInt8.ofNat (up v.n / 256 ^ (7 - j.1))]) (RdS.row .z) rfl (bytesV_one _) (by unfold maxLen; omega) (by omega) (fun A38 c38 => ?_)
        refine o_assign rfl rfl ?_
        refine triL_nil ?_
        refine blockQ_normal ?_
        refine thenQ_normal ?_
        refine tri_slots [(0, _), (5, _), (6, _)] (.cons rfl (.cons rfl (.cons rfl (.nil _)))) ?_
        refine tri_region ?_
        refine o_move rfl rfl ?_
        refine o_subN rfl rfl rfl (by omega) ?_
        refine o_assign rfl rfl ?_
        refine triL_nil ?_
        refine thenQ_normal ?_
        exact ⟨(j.1 + 1, A38, c38), (.cons rfl (.cons rfl (.cons (congrArg (fun k : Int => some (Value.int .i64 k)) (by simp only; omega)) (.nil _)))), (fun w1 hw1 => by have := hw1.tail; rw [← bytesV_append] at this; simp only [beN_snoc j.1 (up v.n) (by omega)]; rw [show l ++ 4 :: ((beN 8 (up v.n)).take j.1 ++ [UInt8.ofNat (up v.n / 256 ^ (7 - j.1))]) = l ++ 4 :: (beN 8 (up v.n)).take j.1 ++ [UInt8.ofNat (up v.n / 256 ^ (7 - j.1))] by simp]; exact this), by simp only; omega, (by simp only; omega)⟩
      · skip
        have hj8 : j.1 = 8 := by omega
        refine tri_exit ?_
        refine thenQ_exit ?_
        refine thenQ_exit ?_
        refine blockQ_here ?_
        refine thenQ_normal ?_
        refine tri_seq ?_
        refine tri_slots [(0, _)] (.cons rfl (.nil _)) ?_
        refine tri_region ?_
        refine o_move rfl rfl ?_
        refine o_assign rfl rfl ?_
        refine triL_nil ?_
        refine thenQ_normal ?_
        refine tri_ret ?_
        refine blockQ_ret ?_
        refine thenQ_ret ?_
        refine end1 rfl rfl ?_
        have e : one v = 4 :: beN 8 (up v.n) := by simp [one, *]
        have e2 : (one v).length = 9 := by rw [e]; simp [beN_length]
        have e3 : (beN 8 (up v.n)).take j.1 = beN 8 (up v.n) := List.take_of_length_le (by rw [beN_length]; omega)
        rw [e3, hj8]
        exact fin_turn (j.2.1, j.2.2) (by rw [e2]) trivial (fun w1 hw1 => by rw [e2, e]; exact hw1.tail)
    · skip
      refine tri_seq ?_
      refine tri_region ?_
      refine o_eqlI rfl rfl rfl ?_
      refine o_assign rfl rfl ?_
      refine triL_nil ?_
      refine thenQ_normal ?_
      refine tri_if rfl (fun k2 => ?_) (fun k2 => ?_)
      · skip
        have hm := may_text hv k2
        refine tri_seq ?_
        refine tri_slots [(3, _), (0, _)] (.cons rfl (.cons rfl (.nil _))) ?_
        refine tri_region ?_
        refine o_move rfl rfl ?_
        refine o_lit1 Try.underlying44 zs5 rfl rfl rfl rfl rfl (by decide) (by decide) (fun b43 => ?_)
        refine o_append Try.underlying44 zsb5 rfl (by decide) (by first | exact Nth.z | exact .s .z | exact .s (.s .z) | exact .s (.s (.s .z)) | exact .s (.s (.s (.s .z))) | exact .s (.s (.s (.s (.s .z)))) | exact .s (.s (.s (.s (.s (.s .z))))) | exact .s (.s (.s (.s (.s (.s (.s .z))))))) rfl rfl rfl (news := bytesV [5]) (RdS.row .z) rfl (bytesV_one _) (by unfold maxLen; omega) (by omega) (fun A44 c44 => ?_)
        refine o_assign rfl rfl ?_
        refine triL_nil ?_
        refine thenQ_normal ?_
        refine tri_seq ?_
        refine tri_seq ?_
        refine tri_region ?_
        refine o_field fo28_2 rfl rfl ?_
        refine o_load agg9 (by first | exact Nth.z | exact .s .z | exact .s (.s .z) | exact .s (.s (.s .z)) | exact .s (.s (.s (.s .z))) | exact .s (.s (.s (.s (.s .z)))) | exact .s (.s (.s (.s (.s (.s .z))))) | exact .s (.s (.s (.s (.s (.s (.s .z))))))) rfl rfl rfl ?_
        refine o_lenB Try.underlying9 rfl rfl ?_
        refine o_move rfl rfl ?_
        refine triL_nil ?_
        refine thenQ_normal ?_
        refine tri_block ?_
        refine tri_loop (ι := Nat × Nat × Option Addr × Nat) (F := fun j => [(0, .slice j.2.2.1 j.2.1 j.2.2.2), (3, .pointer (some ⟨b3, 0, none⟩)), (47, .int .i64 (v.s.length : Int)), (48, .int .i64 (j.1 : Int))]) (HH := fun j => [box b3 28 v.cs, row (.slice j.2.2.1 j.2.1 j.2.2.2) 5 1 j.2.1 (bytesV (l ++ 5 :: esc (v.s.take j.1)))]) (Pu := fun j => j.1 ≤ v.s.length ∧ j.2.1 = n + 1 + (esc (v.s.take j.1)).length ∧ (esc (v.s.take j.1)).length ≤ 2 * j.1) (μ := fun j => v.s.length - j.1) ((0, n + 1, A44, c44)) (.cons rfl (.cons rfl (.cons rfl (.cons rfl (.nil _))))) (fun w1 hw1 => by have := hw1.tail; rw [bytesV_append]; exact this) (⟨by omega, by simp [esc], by simp [esc]⟩) (fun j hi => ?_)
        refine tri_seq ?_
        refine tri_region ?_
        refine o_lss rfl rfl rfl ?_
        refine triL_nil ?_
        refine thenQ_normal ?_
        refine tri_seq ?_
        refine tri_if rfl (fun hc => ?_) (fun hc => ?_)
        · skip
          refine tri_skip ?_
          refine thenQ_normal ?_
          refine tri_join (ι := Nat × Option Addr × Nat) (fun j' => [(0, .slice j'.2.1 j'.1 j'.2.2), (3, .pointer (some ⟨b3, 0, none⟩)), (47, .int .i64 (v.s.length : Int)), (48, .int .i64 (j.1 : Int))]) (fun j' => [box b3 28 v.cs, row (.slice j'.2.1 j'.1 j'.2.2) 5 1 j'.1 (bytesV (l ++ 5 :: esc (v.s.take (j.1 + 1))))]) (fun j' => j'.1 = n + 1 + (esc (v.s.take (j.1 + 1))).length ∧ (esc (v.s.take (j.1 + 1))).length ≤ 2 * (j.1 + 1)) ?_ (fun j' hj => ?_)
          · skip
            refine tri_block ?_
            refine tri_seq ?_
            refine tri_region ?_
            refine o_move rfl rfl ?_
            refine o_assign rfl rfl ?_
            refine triL_nil ?_
            refine thenQ_normal ?_
            refine tri_seq ?_
            refine tri_region ?_
            refine o_move rfl rfl ?_
            refine o_field fo28_2 rfl rfl ?_
            refine o_load agg9 (by first | exact Nth.z | exact .s .z | exact .s (.s .z) | exact .s (.s (.s .z)) | exact .s (.s (.s (.s .z))) | exact .s (.s (.s (.s (.s .z)))) | exact .s (.s (.s (.s (.s (.s .z))))) | exact .s (.s (.s (.s (.s (.s (.s .z))))))) rfl rfl rfl ?_
            refine o_move rfl rfl ?_
            refine o_idxB Try.underlying9 rfl rfl rfl (by omega) (by omega) ?_
            refine o_lit1 Try.underlying44 zs5 rfl rfl rfl rfl rfl (by decide) (by decide) (fun b56 => ?_)
            refine o_append Try.underlying44 zsb5 rfl (by decide) (by first | exact Nth.z | exact .s .z | exact .s (.s .z) | exact .s (.s (.s .z)) | exact .s (.s (.s (.s .z))) | exact .s (.s (.s (.s (.s .z)))) | exact .s (.s (.s (.s (.s (.s .z))))) | exact .s (.s (.s (.s (.s (.s (.s .z))))))) rfl rfl rfl (news := bytesV [v.s.getD j.1 0]) (RdS.row .z) rfl (bytesV_one _) (by unfold maxLen; omega) (by omega) (fun A57 c57 => ?_)
            refine o_assign rfl rfl ?_
            refine triL_nil ?_
            refine thenQ_normal ?_
            refine tri_seq ?_
            refine tri_slots [(0, _), (7, _), (3, _), (47, _), (48, _)] (.cons rfl (.cons rfl (.cons rfl (.cons rfl (.cons rfl (.nil _)))))) ?_
            refine tri_region ?_
            refine o_field fo28_2 rfl rfl ?_
            refine o_load agg9 (by first | exact Nth.z | exact .s .z | exact .s (.s .z) | exact .s (.s (.s .z)) | exact .s (.s (.s (.s .z))) | exact .s (.s (.s (.s (.s .z)))) | exact .s (.s (.s (.s (.s (.s .z))))) | exact .s (.s (.s (.s (.s (.s (.s .z))))))) rfl rfl rfl ?_
            refine o_move rfl rfl ?_
            refine o_idxB Try.underlying9 rfl rfl rfl (by omega) (by omega) ?_
            refine o_eqlU8 _ 0 rfl rfl rfl ?_
            refine triL_nil ?_
            refine thenQ_normal ?_
            refine tri_if rfl (fun h0 => ?_) (fun h0 => ?_)
            · skip
              have h0 : v.s.getD j.1 0 = 0 := h0
              refine tri_slots [(0, _), (3, _), (47, _), (48, _)] (.cons rfl (.cons rfl (.cons rfl (.cons rfl (.nil _))))) ?_
              refine tri_region ?_
              refine o_move rfl rfl ?_
              refine o_lit1 Try.underlying44 zs5 rfl rfl rfl rfl rfl (by decide) (by decide) (fun b64 => ?_)
              refine o_append Try.underlying44 zsb5 rfl (by decide) (by first | exact Nth.z | exact .s .z | exact .s (.s .z) | exact .s (.s (.s .z)) | exact .s (.s (.s (.s .z))) | exact .s (.s (.s (.s (.s .z)))) | exact .s (.s (.s (.s (.s (.s .z))))) | exact .s (.s (.s (.s (.s (.s (.s .z))))))) rfl rfl rfl (news := bytesV [255]) (RdS.row .z) rfl (bytesV_one _) (by unfold maxLen; omega) (by omega) (fun A65 c65 => ?_)
              refine o_assign rfl rfl ?_
              refine triL_nil ?_
              refine blockQ_normal ?_
              refine thenQ_normal ?_
              have es := esc_snoc v.s j.1 (by omega)
              rw [if_pos h0] at es
              rw [es]
              exact ⟨(j.2.1 + 1 + 1, A65, c65), (.cons rfl (.cons rfl (.cons rfl (.cons rfl (.nil _))))), (fun w1 hw1 => by rw [show bytesV (l ++ 5 :: (esc (v.s.take j.1) ++ [0, 255])) = bytesV (l ++ 5 :: esc (v.s.take j.1)) ++ bytesV [v.s.getD j.1 0] ++ bytesV [255] by rw [h0]; simp [bytesV]]; exact hw1.tail.tail), ⟨by simp; omega, by simp; omega⟩⟩
            · skip
              have h0 : ¬ v.s.getD j.1 0 = 0 := h0
              refine tri_skip ?_
              refine blockQ_normal ?_
              refine thenQ_normal ?_
              have es := esc_snoc v.s j.1 (by omega)
              rw [if_neg h0] at es
              rw [es]
              exact ⟨(j.2.1 + 1, A57, c57), (.cons rfl (.cons rfl (.cons rfl (.cons rfl (.nil _))))), (fun w1 hw1 => by rw [show bytesV (l ++ 5 :: (esc (v.s.take j.1) ++ [v.s.getD j.1 0])) = bytesV (l ++ 5 :: esc (v.s.take j.1)) ++ bytesV [v.s.getD j.1 0] by simp [bytesV]]; exact hw1.tail), ⟨by simp; omega, by simp; omega⟩⟩
          refine tri_region ?_
          refine o_addN rfl rfl rfl (by omega) ?_
          refine o_move rfl rfl ?_
          refine triL_nil ?_
          refine thenQ_normal ?_
          exact ⟨(j.1 + 1, j'.1, j'.2.1, j'.2.2), (.cons rfl (.cons rfl (.cons rfl (.cons rfl (.nil _))))), fun _ h => h, by have := hj; simp only at this ⊢; omega, (by simp only; omega)⟩
        · skip
          refine tri_exit ?_
          refine thenQ_exit ?_
          refine thenQ_exit ?_
          refine blockQ_here ?_
          refine thenQ_normal ?_
          refine tri_seq ?_
          refine tri_slots [(0, _)] (.cons rfl (.nil _)) ?_
          refine tri_region ?_
          refine o_move rfl rfl ?_
          refine o_lit (parts := [_, _]) (bytesV [0, 1]) Try.underlying44 zs5 rfl rfl rfl rfl (by decide) (by decide) (fun b68 => ?_)
          refine o_append Try.underlying44 zsb5 rfl (by decide) (by first | exact Nth.z | exact .s .z | exact .s (.s .z) | exact .s (.s (.s .z)) | exact .s (.s (.s (.s .z))) | exact .s (.s (.s (.s (.s .z)))) | exact .s (.s (.s (.s (.s (.s .z))))) | exact .s (.s (.s (.s (.s (.s (.s .z))))))) rfl rfl rfl (news := bytesV [0, 1]) (RdS.row .z) rfl (bytesV_one _) (by unfold maxLen; omega) (by omega) (fun A69 c69 => ?_)
          refine o_assign rfl rfl ?_
          refine triL_nil ?_
          refine thenQ_normal ?_
          refine tri_ret ?_
          refine blockQ_ret ?_
          refine thenQ_ret ?_
          refine end1 rfl rfl ?_
          have hj : j.1 = v.s.length := by omega
          have e : one v = 5 :: (esc v.s ++ [0, 1]) := by simp [one, *]
          have e2 : v.s.take j.1 = v.s := List.take_of_length_le (by omega)
          rw [e2] at hi ⊢
          have e3 : n + (one v).length = j.2.1 + 2 := by rw [e, hi.2.1]; simp; omega
          exact fin_turn (A69, c69) (by simp only [e3]) trivial (fun w1 hw1 => by rw [e3, e]; rw [show l ++ 5 :: (esc v.s ++ [0, 1]) = l ++ 5 :: esc v.s ++ [0, 1] by simp, bytesV_append]; exact hw1.tail.tail)
      · skip
        refine tri_skip ?_
        refine blockQ_normal ?_
        refine thenQ_normal ?_
        refine tri_seq ?_
        refine tri_slots [(0, _)] (.cons rfl (.nil _)) ?_
        refine tri_region ?_
        refine o_move rfl rfl ?_
        refine o_lit1 Try.underlying44 zs5 rfl rfl rfl rfl rfl (by decide) (by decide) (fun b71 => ?_)
        refine o_append Try.underlying44 zsb5 rfl (by decide) (by first | exact Nth.z | exact .s .z | exact .s (.s .z) | exact .s (.s (.s .z)) | exact .s (.s (.s (.s .z))) | exact .s (.s (.s (.s (.s .z)))) | exact .s (.s (.s (.s (.s (.s .z))))) | exact .s (.s (.s (.s (.s (.s (.s .z))))))) rfl rfl rfl (news := bytesV [1]) (RdS.row .z) rfl (bytesV_one _) (by unfold maxLen; omega) (by omega) (fun A72 c72 => ?_)
        refine o_assign rfl rfl ?_
        refine triL_nil ?_
        refine thenQ_normal ?_
        refine tri_ret ?_
        refine end1 rfl rfl ?_
        have e : one v = [1] := by simp [one, *]
        exact fin_turn ((A72, c72)) (by rw [e]; rfl) trivial (fun w1 hw1 => by rw [e, bytesV_append]; exact hw1.tail.tail)

theorem one4 (v : Val) (w : World) (hv : may v = true) (ho : v.ok) : Calls Try.prog 27 #[aggV v] w (Pure w (.string (B (one v)))) := by
  refine calls_tri (args := [aggV v]) (lent := []) (H := []) Try.func27 rfl Try.ntmps27 rfl (Sat.start _ _ _ _) ?_
  refine (show Tri _ [(0, _)] _ _ _ from ?_)
  refine tri_seq ?_
  refine tri_region ?_
  refine o_box (Val.cs _) rfl rfl rfl (fun b1 => ?_)
  refine o_assign rfl rfl ?_
  refine triL_nil ?_
  refine thenQ_normal ?_
  refine tri_seq ?_
  refine tri_seq ?_
  refine tri_region ?_
  refine o_field fo28_0 rfl rfl ?_
  refine o_load agg3 (by first | exact Nth.z | exact .s .z | exact .s (.s .z) | exact .s (.s (.s .z)) | exact .s (.s (.s (.s .z))) | exact .s (.s (.s (.s (.s .z)))) | exact .s (.s (.s (.s (.s (.s .z))))) | exact .s (.s (.s (.s (.s (.s (.s .z))))))) rfl rfl rfl ?_
  refine o_eqlI rfl rfl rfl ?_
  refine triL_nil ?_
  refine thenQ_normal ?_
  refine tri_if rfl (fun k0 => ?_) (fun k0 => ?_)
  · skip
    refine tri_seq ?_
    refine tri_slots [] (.nil _) ?_
    refine tri_region ?_
    refine o_assign rfl rfl ?_
    refine triL_nil ?_
    refine thenQ_normal ?_
    refine tri_ret ?_
    refine thenQ_ret ?_
    refine end1 rfl rfl ?_
    exact fun w1 hw1 => ⟨congrArg (fun b => Ending.returned (.string (B b))) (by simp [one, *]), hw1.chg⟩
  · skip
    refine tri_skip ?_
    refine thenQ_normal ?_
    refine tri_seq ?_
    refine tri_seq ?_
    refine tri_slots [(1, _)] (.cons rfl (.nil _)) ?_
    refine tri_region ?_
    refine o_field fo28_0 rfl rfl ?_
    refine o_load agg3 (by first | exact Nth.z | exact .s .z | exact .s (.s .z) | exact .s (.s (.s .z)) | exact .s (.s (.s (.s .z))) | exact .s (.s (.s (.s (.s .z)))) | exact .s (.s (.s (.s (.s (.s .z))))) | exact .s (.s (.s (.s (.s (.s (.s .z))))))) rfl rfl rfl ?_
    refine o_eqlI rfl rfl rfl ?_
    refine o_move rfl rfl ?_
    refine' triL_and [_, _, _] [(1, _)] (dj := 14) (dr := 17) rfl rfl (fun g1 => ?_) ⟨_, rfl, rfl, rfl, (.cons rfl (.nil _))⟩ rfl ?_
    rotate_left
    · skip
      have g1 := of_decide_eq_true g1
      refine o_field fo28_1 rfl rfl ?_
      refine o_load agg2 (by first | exact Nth.z | exact .s .z | exact .s (.s .z) | exact .s (.s (.s .z)) | exact .s (.s (.s (.s .z))) | exact .s (.s (.s (.s (.s .z)))) | exact .s (.s (.s (.s (.s (.s .z))))) | exact .s (.s (.s (.s (.s (.s (.s .z))))))) rfl rfl rfl ?_
      refine o_eqlI rfl rfl rfl ?_
      exact triL_nil (Piece.mk rfl rfl (.cons rfl (.nil _)) (fun _ h => h))
    refine triL_nil ?_
    refine thenQ_normal ?_
    refine tri_cond rfl (fun k3 => ?_) (fun k3 => ?_)
    · skip
      simp only [Bool.and_eq_true, decide_eq_true_eq] at k3
      refine tri_seq ?_
      refine tri_region ?_
      refine o_assign rfl rfl ?_
      refine triL_nil ?_
      refine thenQ_normal ?_
      refine tri_ret ?_
      refine thenQ_ret ?_
      refine end1 rfl rfl ?_
      exact fun w1 hw1 => ⟨congrArg (fun b => Ending.returned (.string (B b))) (by simp [one, *]), hw1.chg⟩
    · skip
      simp only [Bool.and_eq_false_iff, decide_eq_false_iff_not] at k3
      refine tri_skip ?_
      refine thenQ_normal ?_
      refine tri_seq ?_
      refine tri_seq ?_
      refine tri_region ?_
      refine o_field fo28_0 rfl rfl ?_
      refine o_load agg3 (by first | exact Nth.z | exact .s .z | exact .s (.s .z) | exact .s (.s (.s .z)) | exact .s (.s (.s (.s .z))) | exact .s (.s (.s (.s (.s .z)))) | exact .s (.s (.s (.s (.s (.s .z))))) | exact .s (.s (.s (.s (.s (.s (.s .z))))))) rfl rfl rfl ?_
      refine o_eqlI rfl rfl rfl ?_
      refine triL_nil ?_
      refine thenQ_normal ?_
      refine tri_if rfl (fun kb => ?_) (fun kb => ?_)
      · skip
        have hm := may_bool hv kb
        have hn1 : v.n = 1 := by omega
        refine tri_seq ?_
        refine tri_slots [] (.nil _) ?_
        refine tri_region ?_
        refine o_assign rfl rfl ?_
        refine triL_nil ?_
        refine thenQ_normal ?_
        refine tri_ret ?_
        refine thenQ_ret ?_
        refine end1 rfl rfl ?_
        exact fun w1 hw1 => ⟨congrArg (fun b => Ending.returned (.string (B b))) (by simp [one, *]), hw1.chg⟩
      · skip
        refine tri_skip ?_
        refine thenQ_normal ?_
        refine tri_seq ?_
        refine tri_seq ?_
        refine tri_slots [(1, _)] (.cons rfl (.nil _)) ?_
        refine tri_region ?_
        refine o_field fo28_0 rfl rfl ?_
        refine o_load agg3 (by first | exact Nth.z | exact .s .z | exact .s (.s .z) | exact .s (.s (.s .z)) | exact .s (.s (.s (.s .z))) | exact .s (.s (.s (.s (.s .z)))) | exact .s (.s (.s (.s (.s (.s .z))))) | exact .s (.s (.s (.s (.s (.s (.s .z))))))) rfl rfl rfl ?_
        refine o_eqlI rfl rfl rfl ?_
        refine triL_nil ?_
        refine thenQ_normal ?_
        refine tri_if rfl (fun k1 => ?_) (fun k1 => ?_)
        · skip
          refine tri_seq ?_
          refine tri_region ?_
          refine o_field fo28_1 rfl rfl ?_
          refine o_load agg2 (by first | exact Nth.z | exact .s .z | exact .s (.s .z) | exact .s (.s (.s .z)) | exact .s (.s (.s (.s .z))) | exact .s (.s (.s (.s (.s .z)))) | exact .s (.s (.s (.s (.s (.s .z))))) | exact .s (.s (.s (.s (.s (.s (.s .z))))))) rfl rfl rfl ?_
          refine o_conv rfl rfl Try.underlying2 Try.underlying48 ?_
          refine o_up64 rfl rfl rfl ho.2.1 ho.2.2 ?_
          refine o_assign rfl rfl ?_
          refine triL_nil ?_
          refine thenQ_normal ?_
          refine tri_seq ?_
          refine tri_slots [(3, _)] (.cons rfl (.nil _)) ?_
          refine tri_region ?_
          refine o_lit (parts := [_, _, _, _, _, _, _, _, _]) (bytesV [4, 0, 0, 0, 0, 0, 0, 0, 0]) Try.underlying44 zs5 rfl rfl rfl rfl (by decide) (by decide) (fun b29 => ?_)
          refine o_assign rfl rfl ?_
          refine triL_nil ?_
          refine thenQ_normal ?_
          refine tri_seq ?_
          refine tri_seq ?_
          refine tri_region ?_
          refine o_assign rfl rfl ?_
          refine triL_nil ?_
          refine thenQ_normal ?_
          refine tri_block ?_
          refine tri_loop (ι := Nat) (F := fun j => [(3, .int .u64 ((up v.n / 256 ^ j : Nat) : Int)), (4, .slice (some ⟨b29, 0, none⟩) 9 9), (5, .int .i64 (8 - (j : Int)))]) (HH := fun j => [row (.slice (some ⟨b29, 0, none⟩) 9 9) 5 1 9 (bytesV (4 :: (List.replicate (8 - j) 0 ++ beN j (up v.n))))]) (Pu := fun j => j ≤ 8) (μ := fun j => 8 - j) (0) (.cons (congrArg (fun k : Nat => some (Value.int .u64 (k : Int))) (by simp)) (.cons rfl (.cons rfl (.nil _)))) (fun w1 hw1 => hw1.sublist (List.Sublist.cons_cons _ (List.nil_sublist _))) (Nat.zero_le _) (fun j hi => ?_)
          refine tri_seq ?_
          refine tri_seq ?_
          refine tri_region ?_
          refine o_move rfl rfl ?_
          refine o_gtr rfl rfl rfl ?_
          refine triL_nil ?_
          refine thenQ_normal ?_
          refine tri_if rfl (fun h8 => ?_) (fun h8 => ?_)
          · skip
            refine tri_skip ?_
            refine thenQ_normal ?_
            refine tri_seq ?_
            refine tri_block ?_
            refine tri_seq ?_
            refine tri_region ?_
            refine o_move rfl rfl ?_
            refine o_move rfl rfl ?_
            refine o_move rfl rfl ?_
            refine o_remP rfl rfl rfl trivial ?_
            refine o_toByte rfl rfl Try.underlying48 Try.underlying5 (Int.natCast_nonneg _) ?_
            refine o_idxS Try.underlying44 sz5 rfl rfl rfl (RdS.row .z) (by omega) (by omega) (by simp [bytesV, beN_length]; omega) (by decide) ?_
            refine o_storeR sz5 (by first | exact Nth.z | exact .s .z | exact .s (.s .z) | exact .s (.s (.s .z)) | exact .s (.s (.s (.s .z))) | exact .s (.s (.s (.s (.s .z)))) | exact .s (.s (.s (.s (.s (.s .z))))) | exact .s (.s (.s (.s (.s (.s (.s .z))))))) rfl rfl rfl rfl (by simp [bytesV, beN_length]; omega) rfl ?_
            refine triL_nil ?_
            refine thenQ_normal ?_
            refine tri_slots [(3, _), (4, _), (5, _)] (.cons rfl (.cons rfl (.cons rfl (.nil _)))) ?_
            refine tri_region ?_
            refine o_move rfl rfl ?_
            refine o_quoP rfl rfl rfl (Nat.lt_of_le_of_lt (Nat.div_le_self _ _) (up_lt ho.2.2)) ?_
            refine o_assign rfl rfl ?_
            refine triL_nil ?_
            refine blockQ_normal ?_
            refine thenQ_normal ?_
            refine tri_region ?_
            refine o_move rfl rfl ?_
            refine o_subN rfl rfl rfl (by omega) ?_
            refine o_assign rfl rfl ?_
            refine triL_nil ?_
            refine thenQ_normal ?_
            exact ⟨j + 1, (.cons (congrArg (fun k : Nat => some (Value.int .u64 (k : Int))) (by rw [Nat.pow_succ, Nat.div_div_eq_div_mul])) (.cons rfl (.cons (congrArg (fun k : Int => some (Value.int .i64 k)) (by omega)) (.nil _)))), (fun w1 hw1 => by rw [← oneSet (up v.n) j (by omega)]; rw [show (8 - (j : Int)).toNat * 1 = 8 - j by omega] at hw1; exact hw1), by omega, by omega⟩
          · skip
            have hj8 : j = 8 := by omega
            refine tri_exit ?_
            refine thenQ_exit ?_
            refine thenQ_exit ?_
            refine blockQ_here ?_
            refine thenQ_normal ?_
            refine tri_seq ?_
            refine tri_slots [(4, _)] (.cons rfl (.nil _)) ?_
            refine tri_region ?_
            refine o_move rfl rfl ?_
            refine o_toText Try.underlying44 Try.underlying5 Try.underlying9 rfl rfl (RdS.row .z) (by simp [beN_length]; omega) ?_
            refine o_assign rfl rfl ?_
            refine triL_nil ?_
            refine thenQ_normal ?_
            refine tri_ret ?_
            refine thenQ_ret ?_
            refine end1 rfl rfl ?_
            exact fun w1 hw1 => ⟨congrArg (fun b => Ending.returned (.string (B b))) (by simp [one, *]), hw1.chg⟩
        · skip
          have k2 : v.k = 2 := may_kind hv k0 kb k1
          have hm := may_text hv k2
          refine tri_skip ?_
          refine thenQ_normal ?_
          refine tri_seq ?_
          refine tri_region ?_
          refine o_lit1 Try.underlying44 zs5 rfl rfl rfl rfl rfl (by decide) (by decide) (fun b44 => ?_)
          refine o_assign rfl rfl ?_
          refine triL_nil ?_
          refine thenQ_normal ?_
          refine tri_seq ?_
          refine tri_seq ?_
          refine tri_slots [(6, _), (1, _)] (.cons rfl (.cons rfl (.nil _))) ?_
          refine tri_region ?_
          refine o_assign rfl rfl ?_
          refine triL_nil ?_
          refine thenQ_normal ?_
          refine tri_block ?_
          refine tri_loop (ι := Nat × Nat × Option Addr × Nat) (F := fun j => [(1, .pointer (some ⟨b1, 0, none⟩)), (6, .slice j.2.2.1 j.2.1 j.2.2.2), (7, .int .i64 (j.1 : Int))]) (HH := fun j => [row (.slice j.2.2.1 j.2.1 j.2.2.2) 5 1 j.2.1 (bytesV (5 :: esc (v.s.take j.1))), box b1 28 v.cs]) (Pu := fun j => j.1 ≤ v.s.length ∧ j.2.1 = 1 + (esc (v.s.take j.1)).length ∧ (esc (v.s.take j.1)).length ≤ 2 * j.1) (μ := fun j => v.s.length - j.1) ((0, 1, some ⟨b44, 0, none⟩, 1)) (.cons rfl (.cons rfl (.cons rfl (.nil _)))) (fun _ h => h) (⟨by omega, by simp [esc], by simp [esc]⟩) (fun j hi => ?_)
          refine tri_seq ?_
          refine tri_seq ?_
          refine tri_region ?_
          refine o_move rfl rfl ?_
          refine o_field fo28_2 rfl rfl ?_
          refine o_load agg9 (by first | exact Nth.z | exact .s .z | exact .s (.s .z) | exact .s (.s (.s .z)) | exact .s (.s (.s (.s .z))) | exact .s (.s (.s (.s (.s .z)))) | exact .s (.s (.s (.s (.s (.s .z))))) | exact .s (.s (.s (.s (.s (.s (.s .z))))))) rfl rfl rfl ?_
          refine o_lenB Try.underlying9 rfl rfl ?_
          refine o_lss rfl rfl rfl ?_
          refine triL_nil ?_
          refine thenQ_normal ?_
          refine tri_if rfl (fun hc => ?_) (fun hc => ?_)
          · skip
            refine tri_skip ?_
            refine thenQ_normal ?_
            refine tri_join (ι := Nat × Option Addr × Nat) (fun j' => [(1, .pointer (some ⟨b1, 0, none⟩)), (6, .slice j'.2.1 j'.1 j'.2.2), (7, .int .i64 (j.1 : Int))]) (fun j' => [row (.slice j'.2.1 j'.1 j'.2.2) 5 1 j'.1 (bytesV (5 :: esc (v.s.take (j.1 + 1)))), box b1 28 v.cs]) (fun j' => j'.1 = 1 + (esc (v.s.take (j.1 + 1))).length ∧ (esc (v.s.take (j.1 + 1))).length ≤ 2 * (j.1 + 1)) ?_ (fun j' hj => ?_)
            · skip
              refine tri_block ?_
              refine tri_seq ?_
              refine tri_slots [(1, _), (6, _), (7, _)] (.cons rfl (.cons rfl (.cons rfl (.nil _)))) ?_
              refine tri_region ?_
              refine o_move rfl rfl ?_
              refine o_field fo28_2 rfl rfl ?_
              refine o_load agg9 (by first | exact Nth.z | exact .s .z | exact .s (.s .z) | exact .s (.s (.s .z)) | exact .s (.s (.s (.s .z))) | exact .s (.s (.s (.s (.s .z)))) | exact .s (.s (.s (.s (.s (.s .z))))) | exact .s (.s (.s (.s (.s (.s (.s .z))))))) rfl rfl rfl ?_
              refine o_move rfl rfl ?_
              refine o_idxB Try.underlying9 rfl rfl rfl (by omega) (by omega) ?_
              refine o_lit1 Try.underlying44 zs5 rfl rfl rfl rfl rfl (by decide) (by decide) (fun b57 => ?_)
              refine o_append Try.underlying44 zsb5 rfl (by decide) (by first | exact Nth.z | exact .s .z | exact .s (.s .z) | exact .s (.s (.s .z)) | exact .s (.s (.s (.s .z))) | exact .s (.s (.s (.s (.s .z)))) | exact .s (.s (.s (.s (.s (.s .z))))) | exact .s (.s (.s (.s (.s (.s (.s .z))))))) rfl rfl rfl (news := bytesV [v.s.getD j.1 0]) (RdS.row .z) rfl (bytesV_one _) (by unfold maxLen; omega) (by omega) (fun A58 c58 => ?_)
              refine o_assign rfl rfl ?_
              refine triL_nil ?_
              refine thenQ_normal ?_
              refine tri_seq ?_
              refine tri_slots [(6, _), (1, _), (7, _)] (.cons rfl (.cons rfl (.cons rfl (.nil _)))) ?_
              refine tri_region ?_
              refine o_field fo28_2 rfl rfl ?_
              refine o_load agg9 (by first | exact Nth.z | exact .s .z | exact .s (.s .z) | exact .s (.s (.s .z)) | exact .s (.s (.s (.s .z))) | exact .s (.s (.s (.s (.s .z)))) | exact .s (.s (.s (.s (.s (.s .z))))) | exact .s (.s (.s (.s (.s (.s (.s .z))))))) rfl rfl rfl ?_
              refine o_move rfl rfl ?_
              refine o_idxB Try.underlying9 rfl rfl rfl (by omega) (by omega) ?_
              refine o_eqlU8 _ 0 rfl rfl rfl ?_
              refine triL_nil ?_
              refine thenQ_normal ?_
              refine tri_if rfl (fun h0 => ?_) (fun h0 => ?_)
              · skip
                have h0 : v.s.getD j.1 0 = 0 := h0
                refine tri_slots [(6, _), (1, _), (7, _)] (.cons rfl (.cons rfl (.cons rfl (.nil _)))) ?_
                refine tri_region ?_
                refine o_move rfl rfl ?_
                refine o_lit1 Try.underlying44 zs5 rfl rfl rfl rfl rfl (by decide) (by decide) (fun b65 => ?_)
                refine o_append Try.underlying44 zsb5 rfl (by decide) (by first | exact Nth.z | exact .s .z | exact .s (.s .z) | exact .s (.s (.s .z)) | exact .s (.s (.s (.s .z))) | exact .s (.s (.s (.s (.s .z)))) | exact .s (.s (.s (.s (.s (.s .z))))) | exact .s (.s (.s (.s (.s (.s (.s .z))))))) rfl rfl rfl (news := bytesV [255]) (RdS.row .z) rfl (bytesV_one _) (by unfold maxLen; omega) (by omega) (fun A66 c66 => ?_)
                refine o_assign rfl rfl ?_
                refine triL_nil ?_
                refine blockQ_normal ?_
                refine thenQ_normal ?_
                have es := esc_snoc v.s j.1 (by omega)
                rw [if_pos h0] at es
                rw [es]
                exact ⟨(j.2.1 + 1 + 1, A66, c66), (.cons rfl (.cons rfl (.cons rfl (.nil _)))), (fun w1 hw1 => by rw [show bytesV (5 :: (esc (v.s.take j.1) ++ [0, 255])) = bytesV (5 :: esc (v.s.take j.1)) ++ bytesV [v.s.getD j.1 0] ++ bytesV [255] by rw [h0]; simp [bytesV]]; exact hw1.tail.tail), ⟨by simp; omega, by simp; omega⟩⟩
              · skip
                have h0 : ¬ v.s.getD j.1 0 = 0 := h0
                refine tri_skip ?_
                refine blockQ_normal ?_
                refine thenQ_normal ?_
                have es := esc_snoc v.s j.1 (by omega)
                rw [if_neg h0] at es
                rw [es]
                exact ⟨(j.2.1 + 1, A58, c58), (.cons rfl (.cons rfl (.cons rfl (.nil _)))), (fun w1 hw1 => by rw [show bytesV (5 :: (esc (v.s.take j.1) ++ [v.s.getD j.1 0])) = bytesV (5 :: esc (v.s.take j.1)) ++ bytesV [v.s.getD j.1 0] by simp [bytesV]]; exact hw1.tail), ⟨by simp; omega, by simp; omega⟩⟩
            refine tri_region ?_
            refine o_move rfl rfl ?_
            refine o_addN rfl rfl rfl (by omega) ?_
            refine o_assign rfl rfl ?_
            refine triL_nil ?_
            refine thenQ_normal ?_
            exact ⟨(j.1 + 1, j'.1, j'.2.1, j'.2.2), (.cons rfl (.cons rfl (.cons rfl (.nil _)))), fun _ h => h, by have := hj; simp only at this ⊢; omega, (by simp only; omega)⟩
          · skip
            refine tri_exit ?_
            refine thenQ_exit ?_
            refine thenQ_exit ?_
            refine blockQ_here ?_
            refine thenQ_normal ?_
            refine tri_seq ?_
            refine tri_slots [(6, _)] (.cons rfl (.nil _)) ?_
            refine tri_region ?_
            refine o_move rfl rfl ?_
            refine o_lit (parts := [_, _]) (bytesV [0, 1]) Try.underlying44 zs5 rfl rfl rfl rfl (by decide) (by decide) (fun b68 => ?_)
            refine o_append Try.underlying44 zsb5 rfl (by decide) (by first | exact Nth.z | exact .s .z | exact .s (.s .z) | exact .s (.s (.s .z)) | exact .s (.s (.s (.s .z))) | exact .s (.s (.s (.s (.s .z)))) | exact .s (.s (.s (.s (.s (.s .z))))) | exact .s (.s (.s (.s (.s (.s (.s .z))))))) rfl rfl rfl (news := bytesV [0, 1]) (RdS.row .z) rfl (bytesV_one _) (by unfold maxLen; omega) (by omega) (fun A69 c69 => ?_)
            refine o_toText (l := 5 :: esc (v.s.take j.1) ++ [0, 1]) Try.underlying44 Try.underlying5 Try.underlying9 rfl rfl (by rw [bytesV_append]; exact RdS.row (.s .z)) (by simp; omega) ?_
            refine o_assign rfl rfl ?_
            refine triL_nil ?_
            refine thenQ_normal ?_
            refine tri_ret ?_
            refine end1 rfl rfl ?_
            exact fun w1 hw1 => ⟨congrArg (fun b => Ending.returned (.string (B b))) (by rw [show v.s.take j.1 = v.s from List.take_of_length_le (by omega)]; simp [one, *]), hw1.chg⟩

theorem encK (A : Option Addr) (n c : Nat) (l : List Val) (w : World) (hr : Rd w A (valsV l)) (hn : l.length = n) (hm : n ≤ 5864062014805) (ho : ∀ v ∈ l, v.ok) (hs : ∀ v ∈ l, v.s.length ≤ 140737488355328) : Calls Try.prog 12 #[.slice A n c] w (Pure w (.tuple #[.string (B (encR l).1), .int .i64 (encR l).2])) := by
  refine calls_tri (args := [.slice A n c]) (lent := []) (H := []) Try.func12 rfl Try.ntmps12 rfl (Sat.start _ _ _ _) ?_
  refine (show Tri _ [(0, _)] _ _ _ from ?_)
  have hR : ∀ cx H, cx.w0 = w → cx.lent = [] → RdS cx H A (valsV l) := fun cx H h1 h2 => RdS.arg (by rw [h1]; exact hr) h2
  refine tri_seq ?_
  refine tri_region ?_
  refine o_assign rfl rfl ?_
  refine o_assign rfl rfl ?_
  refine triL_nil ?_
  refine thenQ_normal ?_
  refine tri_seq ?_
  refine tri_seq ?_
  refine tri_region ?_
  refine o_move rfl rfl ?_
  refine o_lenS Try.underlying22 rfl rfl ?_
  refine o_gtr rfl rfl rfl ?_
  refine triL_nil ?_
  refine thenQ_normal ?_
  refine tri_if rfl (fun h0 => ?_) (fun h0 => ?_)
  · skip
    refine tri_seq ?_
    refine tri_slots [] (.nil _) ?_
    refine tri_region ?_
    refine o_assign rfl rfl ?_
    refine o_assign rfl rfl ?_
    refine triL_nil ?_
    refine thenQ_normal ?_
    refine tri_ret ?_
    refine thenQ_ret ?_
    refine end2 rfl rfl rfl ?_
    have hfin : encR l = ([], 1) := by rw [encR, if_pos (by omega)]
    exact fun w1 hw1 => ⟨by rw [hfin], hw1.chg⟩
  · skip
    refine tri_skip ?_
    refine thenQ_normal ?_
    refine tri_seq ?_
    refine tri_slots [(0, _)] (.cons rfl (.nil _)) ?_
    refine tri_region ?_
    refine o_assign rfl rfl ?_
    refine triL_nil ?_
    refine thenQ_normal ?_
    refine tri_seq ?_
    refine tri_seq ?_
    refine tri_region ?_
    refine o_move rfl rfl ?_
    refine o_lenS Try.underlying22 rfl rfl ?_
    refine o_move rfl rfl ?_
    refine triL_nil ?_
    refine thenQ_normal ?_
    refine tri_block ?_
    refine tri_loop (ι := Nat × Option Addr × Nat) (F := fun q => [(4, .slice q.2.1 (enc (l.take q.1)).length q.2.2), (10, .slice A n c), (11, .int .i64 (n : Int)), (12, .int .i64 (q.1 : Int))]) (HH := fun q => [row (.slice q.2.1 (enc (l.take q.1)).length q.2.2) 5 1 (enc (l.take q.1)).length (bytesV (enc (l.take q.1)))]) (Pu := fun q => q.1 ≤ n ∧ ∀ v ∈ l.take q.1, may v = true) (μ := fun q => n - q.1) ((0, none, 0)) (.cons rfl (.cons rfl (.cons rfl (.cons rfl (.nil _))))) (fun _ h => h.nilRow _ _) (⟨Nat.zero_le _, by simp⟩) (fun q hi => ?_)
    refine tri_seq ?_
    refine tri_region ?_
    refine o_lss rfl rfl rfl ?_
    refine triL_nil ?_
    refine thenQ_normal ?_
    refine tri_seq ?_
    refine tri_if rfl (fun h1 => ?_) (fun h1 => ?_)
    · skip
      refine tri_skip ?_
      refine thenQ_normal ?_
      refine tri_seq ?_
      refine tri_block ?_
      refine tri_seq ?_
      refine tri_region ?_
      refine o_idxS Try.underlying22 sz28 rfl rfl rfl (hR _ _ rfl rfl) (by omega) (by omega) (by rw [valsV_length]; omega) (by decide) ?_
      refine o_loadV q.1 agg28 sz28 rfl rfl (hR _ _ rfl rfl) (by omega) (by omega) ?_
      refine o_alloc (Val.cs Val.zero) rfl zero28 rfl (fun b6 => ?_)
      refine o_storeBV sz28 (by first | exact Nth.z | exact .s .z | exact .s (.s .z) | exact .s (.s (.s .z)) | exact .s (.s (.s (.s .z))) | exact .s (.s (.s (.s (.s .z)))) | exact .s (.s (.s (.s (.s (.s .z))))) | exact .s (.s (.s (.s (.s (.s (.s .z))))))) rfl rfl rfl ?_
      refine triL_nil ?_
      refine thenQ_normal ?_
      refine tri_seq ?_
      refine tri_seq ?_
      refine tri_region ?_
      refine o_loadBV agg28 sz28 (by first | exact Nth.z | exact .s .z | exact .s (.s .z) | exact .s (.s (.s .z)) | exact .s (.s (.s (.s .z))) | exact .s (.s (.s (.s (.s .z)))) | exact .s (.s (.s (.s (.s (.s .z))))) | exact .s (.s (.s (.s (.s (.s (.s .z))))))) rfl rfl ?_
      refine o_callP (first := []) (cap := []) rfl rfl rfl Try.call24 (fun w1 h1 => mayK (l.getD q.1 Val.zero) w1 (hs _ (getD_mem _ _ (by omega)))) ?_
      refine o_not rfl rfl ?_
      refine triL_nil ?_
      refine thenQ_normal ?_
      refine tri_cond rfl (fun h2 => ?_) (fun h2 => ?_)
      · skip
        have h2 : may (l.getD q.1 Val.zero) = false := by simpa using h2
        refine tri_seq ?_
        refine tri_slots [] (.nil _) ?_
        refine tri_region ?_
        refine o_assign rfl rfl ?_
        refine o_assign rfl rfl ?_
        refine triL_nil ?_
        refine thenQ_normal ?_
        refine tri_ret ?_
        refine thenQ_ret ?_
        refine blockQ_ret ?_
        refine thenQ_ret ?_
        refine thenQ_ret ?_
        refine blockQ_ret ?_
        refine thenQ_ret ?_
        refine end2 rfl rfl rfl ?_
        have hfin : encR l = ([], 5) := by rw [encR, if_neg (by omega), if_neg (by rw [List.all_eq_true]; intro h; have := h _ (getD_mem l q.1 (by omega)); rw [h2] at this; cases this)]
        exact fun w1 hw1 => ⟨by rw [hfin], hw1.chg⟩
      · skip
        have h2 : may (l.getD q.1 Val.zero) = true := by simpa using h2
        refine tri_skip ?_
        refine thenQ_normal ?_
        refine tri_slots [(6, _), (4, _), (10, _), (11, _), (12, _)] (.cons rfl (.cons rfl (.cons rfl (.cons rfl (.cons rfl (.nil _)))))) ?_
        refine tri_region ?_
        refine o_move rfl rfl ?_
        refine o_loadBV agg28 sz28 (by first | exact Nth.z | exact .s .z | exact .s (.s .z) | exact .s (.s (.s .z)) | exact .s (.s (.s (.s .z))) | exact .s (.s (.s (.s (.s .z)))) | exact .s (.s (.s (.s (.s (.s .z))))) | exact .s (.s (.s (.s (.s (.s (.s .z))))))) rfl rfl ?_
        refine o_callM (first := []) (cap := []) [_] [_] [] _ rfl rfl rfl rfl Try.call25 lend_row lend_row' (fun w1 _ h2' => putK q.2.1 _ q.2.2 (enc (l.take q.1)) (l.getD q.1 Val.zero) w1 h2'.cx (by have := enc_len (l.take q.1) hi.2; simp at this; omega) h2 (ho _ (getD_mem _ _ (by omega)))) (fun j _ => ?_)
        refine o_assign rfl rfl ?_
        refine triL_nil ?_
        refine blockQ_normal ?_
        refine thenQ_normal ?_
        refine tri_slots [(4, _), (10, _), (11, _), (12, _)] (.cons rfl (.cons rfl (.cons rfl (.cons rfl (.nil _))))) ?_
        refine tri_region ?_
        refine o_addN rfl rfl rfl (by omega) ?_
        refine o_move rfl rfl ?_
        refine triL_nil ?_
        refine thenQ_normal ?_
        have e1 : enc (l.take (q.1 + 1)) = enc (l.take q.1) ++ one (l.getD q.1 Val.zero) := by rw [take_snocV l q.1 (by omega), enc_append]; simp [enc]
        have e2 : (enc (l.take (q.1 + 1))).length = (enc (l.take q.1)).length + (one (l.getD q.1 Val.zero)).length := by rw [e1]; simp
        exact ⟨(q.1 + 1, j.1, j.2), (.cons (congrArg (fun k : Nat => some (Value.slice j.1 k j.2)) e2.symm) (.cons rfl (.cons rfl (.cons rfl (.nil _))))), (fun w1 hw1 => by simp only [e1, List.length_append]; exact hw1.tail), ⟨by simp only; omega, by simp only [take_snocV l q.1 (by omega)]; intro v hv; rcases List.mem_append.1 hv with hv | hv; exact hi.2 v hv; obtain rfl := List.mem_singleton.1 hv; exact h2⟩, (by simp only; omega)⟩
    · skip
      refine tri_exit ?_
      refine thenQ_exit ?_
      refine thenQ_exit ?_
      refine blockQ_here ?_
      refine thenQ_normal ?_
      refine tri_seq ?_
      refine tri_seq ?_
      refine tri_slots [(4, _)] (.cons rfl (.nil _)) ?_
      refine tri_region ?_
      refine o_move rfl rfl ?_
      refine o_lenS Try.underlying44 rfl rfl ?_
      refine o_gtr rfl rfl rfl ?_
      refine triL_nil ?_
      refine thenQ_normal ?_
      refine tri_if rfl (fun h3 => ?_) (fun h3 => ?_)
      · skip
        have hq : q.1 = n := by omega
        have ht : l.take q.1 = l := List.take_of_length_le (by omega)
        rw [ht] at h3
        have hal : l.all may = true := by rw [List.all_eq_true]; intro v hv; exact hi.2 v (by rw [ht]; exact hv)
        refine tri_seq ?_
        refine tri_slots [] (.nil _) ?_
        refine tri_region ?_
        refine o_assign rfl rfl ?_
        refine o_assign rfl rfl ?_
        refine triL_nil ?_
        refine thenQ_normal ?_
        refine tri_ret ?_
        refine thenQ_ret ?_
        refine end2 rfl rfl rfl ?_
        have hfin : encR l = ([], 51) := by rw [encR, if_neg (by omega), if_pos hal, if_pos (by omega)]
        exact fun w1 hw1 => ⟨by rw [hfin], hw1.chg⟩
      · skip
        have hq : q.1 = n := by omega
        have ht : l.take q.1 = l := List.take_of_length_le (by omega)
        rw [ht] at h3 ⊢
        have hal : l.all may = true := by rw [List.all_eq_true]; intro v hv; exact hi.2 v (by rw [ht]; exact hv)
        refine tri_skip ?_
        refine thenQ_normal ?_
        refine tri_seq ?_
        refine tri_region ?_
        refine o_move rfl rfl ?_
        refine o_toText Try.underlying44 Try.underlying5 Try.underlying9 rfl rfl (RdS.row .z) rfl ?_
        refine o_assign rfl rfl ?_
        refine o_assign rfl rfl ?_
        refine triL_nil ?_
        refine thenQ_normal ?_
        refine tri_ret ?_
        refine end2 rfl rfl rfl ?_
        have hfin : encR l = (enc l, 0) := by rw [encR, if_neg (by omega), if_pos hal, if_neg (by omega)]
        exact fun w1 hw1 => ⟨by rw [hfin], hw1.chg⟩

theorem encR4 (A : Option Addr) (n c : Nat) (l : List Val) (w : World) (hr : Rd w A (valsV l)) (hn : l.length = n) (hm : n ≤ 5864062014805) (ho : ∀ v ∈ l, v.ok) (hs : ∀ v ∈ l, v.s.length ≤ 140737488355328) : Calls Try.prog 15 #[.slice A n c] w (Pure w (.tuple #[.string (B (encR l).1), .int .i64 (encR l).2])) := by
  refine calls_tri (args := [.slice A n c]) (lent := []) (H := []) Try.func15 rfl Try.ntmps15 rfl (Sat.start _ _ _ _) ?_
  refine (show Tri _ [(0, _)] _ _ _ from ?_)
  have hR : ∀ cx H, cx.w0 = w → cx.lent = [] → RdS cx H A (valsV l) := fun cx H h1 h2 => RdS.arg (by rw [h1]; exact hr) h2
  refine tri_seq ?_
  refine tri_region ?_
  refine o_assign rfl rfl ?_
  refine o_assign rfl rfl ?_
  refine triL_nil ?_
  refine thenQ_normal ?_
  refine tri_seq ?_
  refine tri_seq ?_
  refine tri_region ?_
  refine o_move rfl rfl ?_
  refine o_lenS Try.underlying22 rfl rfl ?_
  refine o_gtr rfl rfl rfl ?_
  refine triL_nil ?_
  refine thenQ_normal ?_
  refine tri_if rfl (fun h0 => ?_) (fun h0 => ?_)
  · skip
    refine tri_seq ?_
    refine tri_slots [] (.nil _) ?_
    refine tri_region ?_
    refine o_assign rfl rfl ?_
    refine o_assign rfl rfl ?_
    refine triL_nil ?_
    refine thenQ_normal ?_
    refine tri_ret ?_
    refine thenQ_ret ?_
    refine end2 rfl rfl rfl ?_
    have hfin : encR l = ([], 1) := by rw [encR, if_pos (by omega)]
    exact fun w1 hw1 => ⟨by rw [hfin], hw1.chg⟩
  · skip
    refine tri_skip ?_
    refine thenQ_normal ?_
    refine tri_seq ?_
    refine tri_slots [(0, _)] (.cons rfl (.nil _)) ?_
    refine tri_region ?_
    refine o_assign rfl rfl ?_
    refine triL_nil ?_
    refine thenQ_normal ?_
    refine tri_seq ?_
    refine tri_seq ?_
    refine tri_region ?_
    refine o_assign rfl rfl ?_
    refine triL_nil ?_
    refine thenQ_normal ?_
    refine tri_block ?_
    refine tri_loop (ι := Nat) (F := fun i => [(0, .slice A n c), (4, .string (B (enc (l.take i)))), (5, .int .i64 (i : Int))]) (HH := fun i => []) (Pu := fun i => i ≤ n ∧ ∀ v ∈ l.take i, may v = true) (μ := fun i => n - i) (0) (.cons rfl (.cons rfl (.cons rfl (.nil _)))) (fun _ h => h) (⟨Nat.zero_le _, by simp⟩) (fun i hi => ?_)
    refine tri_seq ?_
    refine tri_seq ?_
    refine tri_region ?_
    refine o_move rfl rfl ?_
    refine o_move rfl rfl ?_
    refine o_lenS Try.underlying22 rfl rfl ?_
    refine o_lss rfl rfl rfl ?_
    refine triL_nil ?_
    refine thenQ_normal ?_
    refine tri_if rfl (fun h1 => ?_) (fun h1 => ?_)
    · skip
      refine tri_skip ?_
      refine thenQ_normal ?_
      refine tri_seq ?_
      refine tri_block ?_
      refine tri_seq ?_
      refine tri_seq ?_
      refine tri_slots [(0, _), (4, _), (5, _)] (.cons rfl (.cons rfl (.cons rfl (.nil _)))) ?_
      refine tri_region ?_
      refine o_move rfl rfl ?_
      refine o_move rfl rfl ?_
      refine o_idxS Try.underlying22 sz28 rfl rfl rfl (hR _ _ rfl rfl) (by omega) (by omega) (by rw [valsV_length]; omega) (by decide) ?_
      refine o_loadV i agg28 sz28 rfl rfl (hR _ _ rfl rfl) (by omega) (by omega) ?_
      refine o_callP (first := []) (cap := []) rfl rfl rfl Try.call21 (fun w1 h1 => mayR (l.getD i Val.zero) w1 (hs _ (getD_mem _ _ (by omega)))) ?_
      refine o_not rfl rfl ?_
      refine triL_nil ?_
      refine thenQ_normal ?_
      refine tri_cond rfl (fun h2 => ?_) (fun h2 => ?_)
      · skip
        have h2 : may (l.getD i Val.zero) = false := by simpa using h2
        refine tri_seq ?_
        refine tri_slots [] (.nil _) ?_
        refine tri_region ?_
        refine o_assign rfl rfl ?_
        refine o_assign rfl rfl ?_
        refine triL_nil ?_
        refine thenQ_normal ?_
        refine tri_ret ?_
        refine thenQ_ret ?_
        refine blockQ_ret ?_
        refine thenQ_ret ?_
        refine thenQ_ret ?_
        refine blockQ_ret ?_
        refine thenQ_ret ?_
        refine end2 rfl rfl rfl ?_
        have hfin : encR l = ([], 5) := by rw [encR, if_neg (by omega), if_neg (by rw [List.all_eq_true]; intro h; have := h _ (getD_mem l i (by omega)); rw [h2] at this; cases this)]
        exact fun w1 hw1 => ⟨by rw [hfin], hw1.chg⟩
      · skip
        have h2 : may (l.getD i Val.zero) = true := by simpa using h2
        have hl1 := one_len h2
        have hl2 := enc_len (l.take i) hi.2
        have hl3 : (l.take i).length ≤ i := by simp; omega
        refine tri_skip ?_
        refine thenQ_normal ?_
        refine tri_slots [(0, _), (4, _), (5, _)] (.cons rfl (.cons rfl (.cons rfl (.nil _)))) ?_
        refine tri_region ?_
        refine o_move rfl rfl ?_
        refine o_move rfl rfl ?_
        refine o_move rfl rfl ?_
        refine o_idxS Try.underlying22 sz28 rfl rfl rfl (hR _ _ rfl rfl) (by omega) (by omega) (by rw [valsV_length]; omega) (by decide) ?_
        refine o_loadV i agg28 sz28 rfl rfl (hR _ _ rfl rfl) (by omega) (by omega) ?_
        refine o_callP (first := []) (cap := []) rfl rfl rfl Try.call27 (fun w1 h1 => one4 (l.getD i Val.zero) w1 h2 (ho _ (getD_mem _ _ (by omega)))) ?_
        refine o_cat rfl rfl rfl (by omega) ?_
        refine o_assign rfl rfl ?_
        refine triL_nil ?_
        refine blockQ_normal ?_
        refine thenQ_normal ?_
        refine tri_slots [(4, _), (0, _), (5, _)] (.cons rfl (.cons rfl (.cons rfl (.nil _)))) ?_
        refine tri_region ?_
        refine o_move rfl rfl ?_
        refine o_addN rfl rfl rfl (by omega) ?_
        refine o_assign rfl rfl ?_
        refine triL_nil ?_
        refine thenQ_normal ?_
        have e1 : enc (l.take (i + 1)) = enc (l.take i) ++ one (l.getD i Val.zero) := by rw [take_snocV l i (by omega), enc_append]; simp [enc]
        exact ⟨i + 1, (.cons rfl (.cons (congrArg (fun k => some (Value.string (B k))) e1.symm) (.cons rfl (.nil _)))), fun _ h => h, ⟨by omega, by rw [take_snocV l i (by omega)]; intro v hv; rcases List.mem_append.1 hv with hv | hv; exact hi.2 v hv; obtain rfl := List.mem_singleton.1 hv; exact h2⟩, by omega⟩
    · skip
      refine tri_exit ?_
      refine thenQ_exit ?_
      refine thenQ_exit ?_
      refine blockQ_here ?_
      refine thenQ_normal ?_
      refine tri_seq ?_
      refine tri_seq ?_
      refine tri_slots [(4, _)] (.cons rfl (.nil _)) ?_
      refine tri_region ?_
      refine o_move rfl rfl ?_
      refine o_lenB Try.underlying9 rfl rfl ?_
      refine o_gtr rfl rfl rfl ?_
      refine triL_nil ?_
      refine thenQ_normal ?_
      refine tri_if rfl (fun h3 => ?_) (fun h3 => ?_)
      · skip
        have hq : i = n := by omega
        have ht : l.take i = l := List.take_of_length_le (by omega)
        rw [ht] at h3
        have hal : l.all may = true := by rw [List.all_eq_true]; intro v hv; exact hi.2 v (by rw [ht]; exact hv)
        refine tri_seq ?_
        refine tri_slots [] (.nil _) ?_
        refine tri_region ?_
        refine o_assign rfl rfl ?_
        refine o_assign rfl rfl ?_
        refine triL_nil ?_
        refine thenQ_normal ?_
        refine tri_ret ?_
        refine thenQ_ret ?_
        refine end2 rfl rfl rfl ?_
        have hfin : encR l = ([], 51) := by rw [encR, if_neg (by omega), if_pos hal, if_pos (by omega)]
        exact fun w1 hw1 => ⟨by rw [hfin], hw1.chg⟩
      · skip
        have hq : i = n := by omega
        have ht : l.take i = l := List.take_of_length_le (by omega)
        rw [ht] at h3 ⊢
        have hal : l.all may = true := by rw [List.all_eq_true]; intro v hv; exact hi.2 v (by rw [ht]; exact hv)
        refine tri_skip ?_
        refine thenQ_normal ?_
        refine tri_seq ?_
        refine tri_region ?_
        refine o_move rfl rfl ?_
        refine o_assign rfl rfl ?_
        refine o_assign rfl rfl ?_
        refine triL_nil ?_
        refine thenQ_normal ?_
        refine tri_ret ?_
        refine end2 rfl rfl rfl ?_
        have hfin : encR l = (enc l, 0) := by rw [encR, if_neg (by omega), if_pos hal, if_neg (by omega)]
        exact fun w1 hw1 => ⟨by rw [hfin], hw1.chg⟩

theorem beyK (A : Option Addr) (n c : Nat) (l : List Val) (b : Bool) (w : World) (hr : Rd w A (valsV l)) (hn : l.length = n) (hm : n ≤ 5864062014805) (ho : ∀ v ∈ l, v.ok) (hs : ∀ v ∈ l, v.s.length ≤ 140737488355328) : Calls Try.prog 28 #[.slice A n c, .bool b] w (Pure w (.tuple #[.string (B (beyR l (b)).1), .int .i64 (beyR l (b)).2])) := by
  refine calls_tri (args := [.slice A n c, .bool b]) (lent := []) (H := []) Try.func28 rfl Try.ntmps28 rfl (Sat.start _ _ _ _) ?_
  refine (show Tri _ [(0, _), (1, _)] _ _ _ from ?_)
  have hR : ∀ cx H, cx.w0 = w → cx.lent = [] → RdS cx H A (valsV l) := fun cx H h1 h2 => RdS.arg (by rw [h1]; exact hr) h2
  have hel := encR_len l
  refine tri_seq ?_
  refine tri_region ?_
  refine o_assign rfl rfl ?_
  refine o_assign rfl rfl ?_
  refine triL_nil ?_
  refine thenQ_normal ?_
  refine tri_seq ?_
  refine tri_region ?_
  refine o_move rfl rfl ?_
  refine o_callP (first := []) (cap := []) rfl rfl rfl Try.call12 (fun w1 h1 => encK A n c l w1 (h1.rd (hR _ _ rfl rfl)) hn hm ho hs) ?_
  refine o_move rfl rfl ?_
  refine o_extract rfl rfl rfl ?_
  refine o_extract rfl rfl rfl ?_
  refine o_assign rfl rfl ?_
  refine o_assign rfl rfl ?_
  refine triL_nil ?_
  refine thenQ_normal ?_
  refine tri_seq ?_
  refine tri_seq ?_
  refine tri_slots [(7, _), (6, _), (1, _)] (.cons rfl (.cons rfl (.cons rfl (.nil _)))) ?_
  refine tri_region ?_
  refine o_move rfl rfl ?_
  refine o_eqlI rfl rfl rfl ?_
  refine o_move rfl rfl ?_
  refine' triL_and [_] [(7, _), (6, _)] (dj := 15) (dr := 16) rfl rfl (fun g1 => ?_) ⟨_, rfl, rfl, rfl, (.cons rfl (.cons rfl (.nil _)))⟩ rfl ?_
  rotate_left
  · skip
    skip
    refine o_move rfl rfl ?_
    exact triL_nil (Piece.mk rfl rfl (.cons rfl (.cons rfl (.nil _))) (fun _ h => h))
  refine triL_nil ?_
  refine thenQ_normal ?_
  refine tri_cond rfl (fun h0 => ?_) (fun h0 => ?_)
  · skip
    simp only [Bool.and_eq_true, decide_eq_true_eq] at h0
    refine tri_region ?_
    refine o_move rfl rfl ?_
    refine o_cat (m := [255]) rfl rfl rfl (by simp; omega) ?_
    refine o_assign rfl rfl ?_
    refine triL_nil ?_
    refine thenQ_normal ?_
    refine tri_seq ?_
    refine tri_region ?_
    refine o_move rfl rfl ?_
    refine o_move rfl rfl ?_
    refine o_assign rfl rfl ?_
    refine o_assign rfl rfl ?_
    refine triL_nil ?_
    refine thenQ_normal ?_
    refine tri_ret ?_
    refine end2 rfl rfl rfl ?_
    have hfin : beyR l b = ((encR l).1 ++ [255], (encR l).2) := by rw [beyR, if_pos h0]
    exact fun w1 hw1 => ⟨by rw [hfin], hw1.chg⟩
  · skip
    simp only [Bool.and_eq_false_iff, decide_eq_false_iff_not] at h0
    refine tri_skip ?_
    refine thenQ_normal ?_
    refine tri_seq ?_
    refine tri_region ?_
    refine o_move rfl rfl ?_
    refine o_move rfl rfl ?_
    refine o_assign rfl rfl ?_
    refine o_assign rfl rfl ?_
    refine triL_nil ?_
    refine thenQ_normal ?_
    refine tri_ret ?_
    refine end2 rfl rfl rfl ?_
    have hfin : beyR l b = encR l := by rw [beyR, if_neg (by intro h; rcases h0 with h0 | h0; exact h0 h.1; rw [h.2] at h0; cases h0)]
    exact fun w1 hw1 => ⟨by rw [hfin], hw1.chg⟩

theorem fromK (A : Option Addr) (n c : Nat) (l : List Val) (b : Bool) (w : World) (hr : Rd w A (valsV l)) (hn : l.length = n) (hm : n ≤ 5864062014805) (ho : ∀ v ∈ l, v.ok) (hs : ∀ v ∈ l, v.s.length ≤ 140737488355328) : Calls Try.prog 16 #[.slice A n c, .bool b] w (Pure w (.tuple #[.string (B (beyR l (!b)).1), .int .i64 (beyR l (!b)).2])) := by
  refine calls_tri (args := [.slice A n c, .bool b]) (lent := []) (H := []) Try.func16 rfl Try.ntmps16 rfl (Sat.start _ _ _ _) ?_
  refine (show Tri _ [(0, _), (1, _)] _ _ _ from ?_)
  have hR : ∀ cx H, cx.w0 = w → cx.lent = [] → RdS cx H A (valsV l) := fun cx H h1 h2 => RdS.arg (by rw [h1]; exact hr) h2
  refine tri_seq ?_
  refine tri_region ?_
  refine o_assign rfl rfl ?_
  refine o_assign rfl rfl ?_
  refine triL_nil ?_
  refine thenQ_normal ?_
  refine tri_seq ?_
  refine tri_region ?_
  refine o_move rfl rfl ?_
  refine o_move rfl rfl ?_
  refine o_not rfl rfl ?_
  refine o_callP (first := []) (cap := []) rfl rfl rfl Try.call28 (fun w1 h1 => beyK A n c l (!b) w1 (h1.rd (hR _ _ rfl rfl)) hn hm ho hs) ?_
  refine o_extract rfl rfl rfl ?_
  refine o_extract rfl rfl rfl ?_
  refine o_assign rfl rfl ?_
  refine o_assign rfl rfl ?_
  refine triL_nil ?_
  refine thenQ_normal ?_
  refine tri_ret ?_
  refine end2 rfl rfl rfl ?_
  exact fun w1 hw1 => ⟨rfl, hw1.chg⟩

theorem toK (A : Option Addr) (n c : Nat) (l : List Val) (b : Bool) (w : World) (hr : Rd w A (valsV l)) (hn : l.length = n) (hm : n ≤ 5864062014805) (ho : ∀ v ∈ l, v.ok) (hs : ∀ v ∈ l, v.s.length ≤ 140737488355328) : Calls Try.prog 17 #[.slice A n c, .bool b] w (Pure w (.tuple #[.string (B (beyR l (b)).1), .int .i64 (beyR l (b)).2])) := by
  refine calls_tri (args := [.slice A n c, .bool b]) (lent := []) (H := []) Try.func17 rfl Try.ntmps17 rfl (Sat.start _ _ _ _) ?_
  refine (show Tri _ [(0, _), (1, _)] _ _ _ from ?_)
  have hR : ∀ cx H, cx.w0 = w → cx.lent = [] → RdS cx H A (valsV l) := fun cx H h1 h2 => RdS.arg (by rw [h1]; exact hr) h2
  refine tri_seq ?_
  refine tri_region ?_
  refine o_assign rfl rfl ?_
  refine o_assign rfl rfl ?_
  refine triL_nil ?_
  refine thenQ_normal ?_
  refine tri_seq ?_
  refine tri_region ?_
  refine o_move rfl rfl ?_
  refine o_move rfl rfl ?_
  refine o_callP (first := []) (cap := []) rfl rfl rfl Try.call28 (fun w1 h1 => beyK A n c l b w1 (h1.rd (hR _ _ rfl rfl)) hn hm ho hs) ?_
  refine o_extract rfl rfl rfl ?_
  refine o_extract rfl rfl rfl ?_
  refine o_assign rfl rfl ?_
  refine o_assign rfl rfl ?_
  refine triL_nil ?_
  refine thenQ_normal ?_
  refine tri_ret ?_
  refine end2 rfl rfl rfl ?_
  exact fun w1 hw1 => ⟨rfl, hw1.chg⟩

theorem nextK (s : List UInt8) (at_ k g1 g4 : Nat) (w : World) (hs : Sat ⟨Try.prog, 21, [], w, [g4]⟩ [box g4 3 [.int .i64 (at_ : Int)]] w) (hk : Rd w (some ⟨g1, 0, none⟩) [.string (B s)]) (hne : g1 ≠ g4) (hl : s.length ≤ 140) (ha : at_ ≤ s.length) (hk8 : k ≤ 8) : Calls Try.prog 22 #[.int .i64 (k : Int), .pointer (some ⟨g1, 0, none⟩), .pointer (some ⟨g4, 0, none⟩)] w (Turn w [g4] (fun j : List UInt8 × Bool × Nat => .tuple #[.string (B j.1), .bool j.2.1]) (fun j => [box g4 3 [.int .i64 (j.2.2 : Int)]]) (fun j => (j.2.1 = true ∧ j.1 = (s.drop at_).take k ∧ j.2.2 = at_ + k ∧ at_ + k ≤ s.length) ∨ (j.2.1 = false ∧ j.1 = [] ∧ j.2.2 = at_ ∧ s.length < at_ + k))) := by
  refine calls_tri (args := [.int .i64 (k : Int), .pointer (some ⟨g1, 0, none⟩), .pointer (some ⟨g4, 0, none⟩)]) (lent := [g4]) (H := [box g4 3 [.int .i64 (at_ : Int)]]) Try.func22 rfl Try.ntmps22 rfl hs ?_
  refine (show Tri _ [(0, _), (1, _), (2, _)] _ _ _ from ?_)
  have hK : ∀ cx H, cx.w0 = w → cx.lent = [g4] → RdS cx H (some ⟨g1, 0, none⟩) [.string (B s)] := fun cx H h1 h2 => RdS.lent (by rw [h1]; exact hk) (by rw [h2]; intro a ha; cases ha; simpa using hne)
  refine tri_seq ?_
  refine tri_region ?_
  refine o_assign rfl rfl ?_
  refine o_assign rfl rfl ?_
  refine triL_nil ?_
  refine thenQ_normal ?_
  refine tri_seq ?_
  refine tri_seq ?_
  refine tri_region ?_
  refine o_loadR (A := some ⟨g1, 0, none⟩) (kk := 0) agg9 rfl rfl (hK _ _ rfl rfl) rfl ?_
  refine o_lenB Try.underlying9 rfl rfl ?_
  refine o_load agg3 (by first | exact Nth.z | exact .s .z | exact .s (.s .z) | exact .s (.s (.s .z)) | exact .s (.s (.s (.s .z))) | exact .s (.s (.s (.s (.s .z)))) | exact .s (.s (.s (.s (.s (.s .z))))) | exact .s (.s (.s (.s (.s (.s (.s .z))))))) rfl rfl rfl ?_
  refine o_subN rfl rfl rfl (by omega) ?_
  refine o_move rfl rfl ?_
  refine o_lss rfl rfl rfl ?_
  refine triL_nil ?_
  refine thenQ_normal ?_
  refine tri_if rfl (fun h0 => ?_) (fun h0 => ?_)
  · skip
    refine tri_seq ?_
    refine tri_slots [] (.nil _) ?_
    refine tri_region ?_
    refine o_assign rfl rfl ?_
    refine o_assign rfl rfl ?_
    refine triL_nil ?_
    refine thenQ_normal ?_
    refine tri_ret ?_
    refine thenQ_ret ?_
    refine end2 rfl rfl rfl ?_
    exact fin_turn ([], false, at_) rfl (.inr ⟨rfl, rfl, rfl, by omega⟩) (fun w1 hw1 => hw1)
  · skip
    refine tri_skip ?_
    refine thenQ_normal ?_
    refine tri_seq ?_
    refine tri_slots [(0, _), (1, _), (2, _)] (.cons rfl (.cons rfl (.cons rfl (.nil _)))) ?_
    refine tri_region ?_
    refine o_load agg3 (by first | exact Nth.z | exact .s .z | exact .s (.s .z) | exact .s (.s (.s .z)) | exact .s (.s (.s (.s .z))) | exact .s (.s (.s (.s (.s .z)))) | exact .s (.s (.s (.s (.s (.s .z))))) | exact .s (.s (.s (.s (.s (.s (.s .z))))))) rfl rfl rfl ?_
    refine o_move rfl rfl ?_
    refine o_addN rfl rfl rfl (by omega) ?_
    refine o_store sz3 (by first | exact Nth.z | exact .s .z | exact .s (.s .z) | exact .s (.s (.s .z)) | exact .s (.s (.s (.s .z))) | exact .s (.s (.s (.s (.s .z)))) | exact .s (.s (.s (.s (.s (.s .z))))) | exact .s (.s (.s (.s (.s (.s (.s .z))))))) rfl rfl rfl rfl rfl (Nat.le_of_ble_eq_true rfl) rfl ?_
    refine triL_nil ?_
    refine thenQ_normal ?_
    refine tri_seq ?_
    refine tri_region ?_
    refine o_loadR (A := some ⟨g1, 0, none⟩) (kk := 0) agg9 rfl rfl (hK _ _ rfl rfl) rfl ?_
    refine o_load agg3 (by first | exact Nth.z | exact .s .z | exact .s (.s .z) | exact .s (.s (.s .z)) | exact .s (.s (.s (.s .z))) | exact .s (.s (.s (.s (.s .z)))) | exact .s (.s (.s (.s (.s (.s .z))))) | exact .s (.s (.s (.s (.s (.s (.s .z))))))) rfl rfl rfl ?_
    refine o_move rfl rfl ?_
    refine o_subN rfl rfl rfl (by omega) ?_
    refine o_load agg3 (by first | exact Nth.z | exact .s .z | exact .s (.s .z) | exact .s (.s (.s .z)) | exact .s (.s (.s (.s .z))) | exact .s (.s (.s (.s (.s .z)))) | exact .s (.s (.s (.s (.s (.s .z))))) | exact .s (.s (.s (.s (.s (.s (.s .z))))))) rfl rfl rfl ?_
    refine o_sliceB Try.underlying9 rfl rfl rfl rfl (by omega) (by omega) (by omega) ?_
    refine o_assign rfl rfl ?_
    refine o_assign rfl rfl ?_
    refine triL_nil ?_
    refine thenQ_normal ?_
    refine tri_ret ?_
    refine end2 rfl rfl rfl ?_
    exact fin_turn ((s.drop at_).take k, true, at_ + k) (by rw [show ((at_ : Int) + (k : Int) - (k : Int)).toNat = at_ by omega, show ((at_ : Int) + (k : Int)).toNat - at_ = k by omega]) (.inl ⟨rfl, rfl, rfl, by omega⟩) (fun w1 hw1 => hw1)

end Go.Proofs.Ytidnfamnigbbmaa
