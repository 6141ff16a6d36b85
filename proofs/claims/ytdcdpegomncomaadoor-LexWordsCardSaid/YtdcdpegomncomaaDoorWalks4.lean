/- the law's small functions, walked; which words are kept -/
import Derived.Test.YtdcdpegomncomaaDoorWalks3
import Derived.Test.YtdcdpegomncomaaDoorLex6
namespace Go.Proofs.YtdcdpegomncomaaDoor
open Go.WK Go.RowKit 

theorem zs9 : (Tryd.prog.info? 9).map (fun i => (i.zero, i.size)) = some (some (.string .empty), 1) := by kernel_rfl
theorem bval32_0_1 (x : Int) (y : List UInt8) : Tryd.prog.built 32 [(0, .int .i64 x), (1, .string (B y))] = some (Tok.cs ⟨x, y, 0⟩).toArray := by kernel_rfl
theorem flat32 : flatB Tryd.prog 32 = some tokKs := by kernel_rfl
theorem bval32_0_1_2 (x : Int) (y : List UInt8) (z : Int) : Tryd.prog.built 32 [(0, .int .i64 x), (1, .string (B y)), (2, .int .i64 z)] = some (Tok.cs ⟨x, y, z⟩).toArray := by kernel_rfl

theorem wordsR  (w : World)  : Calls Tryd.prog 5 #[] w (NewRowF id w 9 1 35 (strsV wds)) := by
  refine calls_tri (args := []) (lent := []) (H := []) Tryd.func5 rfl Tryd.ntmps5 rfl (Sat.start _ _ _ _) ?_
  refine (show Tri _ [] _ _ _ from ?_)
  refine tri_seq ?_
  refine tri_region ?_
  refine o_assign rfl rfl ?_
  refine triL_nil ?_
  refine thenQ_normal ?_
  refine tri_seq ?_
  refine tri_region ?_
  refine o_lit (parts := [_, _, _, _, _, _, _, _, _, _, _, _, _, _, _, _, _, _, _, _, _, _, _, _, _, _, _, _, _, _, _, _, _, _, _]) (strsV wds) Tryd.underlying22 zs9 rfl rfl rfl rfl (by decide) (by decide) (fun b1 => ?_)
  refine o_assign rfl rfl ?_
  refine triL_nil ?_
  refine thenQ_normal ?_
  refine tri_ret ?_
  refine end1 rfl rfl ?_
  exact fin_row id .z

theorem wds_len : wds.length = 35 := rfl

theorem wordR (s : List UInt8) (w : World)  : Calls Tryd.prog 7 #[.string (B s)] w (Pure w (.bool (decide (s ∈ wds)))) := by
  refine calls_tri (args := [.string (B s)]) (lent := []) (H := []) Tryd.func7 rfl Tryd.ntmps7 rfl (Sat.start _ _ _ _) ?_
  refine (show Tri _ [(0, _)] _ _ _ from ?_)
  refine tri_seq ?_
  refine tri_region ?_
  refine o_assign rfl rfl ?_
  refine triL_nil ?_
  refine thenQ_normal ?_
  refine tri_seq ?_
  refine tri_region ?_
  refine o_callF (first := []) (cap := []) id rfl rfl rfl Tryd.call5 (fun w1 h1 => wordsR w1) (fun A5 c5 => ?_)
  refine o_assign rfl rfl ?_
  refine triL_nil ?_
  refine thenQ_normal ?_
  refine tri_seq ?_
  refine tri_seq ?_
  refine tri_region ?_
  refine o_assign rfl rfl ?_
  refine triL_nil ?_
  refine thenQ_normal ?_
  refine tri_block ?_
  refine tri_loop (ι := Nat) (F := fun i => [(0, .string (B s)), (3, .slice A5 35 c5), (4, .int .i64 (i : Int))]) (HH := fun i => [row (.slice A5 35 c5) 9 1 35 (strsV wds)]) (Pu := fun i => i ≤ 35 ∧ s ∉ wds.take i) (μ := fun i => 35 - i) (0) (.cons rfl (.cons rfl (.cons rfl (.nil _)))) (fun _ h => h) (⟨by omega, by simp⟩) (fun i hi => ?_)
  refine tri_seq ?_
  refine tri_seq ?_
  refine tri_region ?_
  refine o_move rfl rfl ?_
  refine o_move rfl rfl ?_
  refine o_lenS Tryd.underlying22 rfl rfl ?_
  refine o_lss rfl rfl rfl ?_
  refine triL_nil ?_
  refine thenQ_normal ?_
  refine tri_if rfl (fun h0 => ?_) (fun h0 => ?_)
  · skip
    have hi5 : i < wds.length := by rw [wds_len]; omega
    refine tri_skip ?_
    refine thenQ_normal ?_
    refine tri_seq ?_
    refine tri_block ?_
    refine tri_seq ?_
    refine tri_slots [(0, _), (3, _), (4, _)] (.cons rfl (.cons rfl (.cons rfl (.nil _)))) ?_
    refine tri_region ?_
    refine o_move rfl rfl ?_
    refine o_move rfl rfl ?_
    refine o_idxS Tryd.underlying22 sz9 rfl rfl rfl (RdS.row .z) (by omega) (by omega) (by rw [strsV_length]; rfl) (by decide) ?_
    refine o_loadR agg9 rfl rfl (RdS.row .z) (strsV_get wds i _ (by omega) hi5) ?_
    refine o_move rfl rfl ?_
    refine o_eqlT rfl rfl rfl ?_
    refine triL_nil ?_
    refine thenQ_normal ?_
    refine tri_if rfl (fun h1 => ?_) (fun h1 => ?_)
    · skip
      have h1 : wds.getD i [] = s := h1
      refine tri_seq ?_
      refine tri_slots [] (.nil _) ?_
      refine tri_region ?_
      refine o_assign rfl rfl ?_
      refine triL_nil ?_
      refine thenQ_normal ?_
      refine tri_ret ?_
      refine blockQ_ret ?_
      refine thenQ_ret ?_
      refine thenQ_ret ?_
      refine blockQ_ret ?_
      refine thenQ_ret ?_
      refine end1 rfl rfl ?_
      exact fun w1 hw1 => ⟨congrArg (fun b => Ending.returned (.bool b)) (by exact (decide_eq_true (h1 ▸ getD_memS wds i hi5)).symm), hw1.chg⟩
    · skip
      have h1 : ¬ wds.getD i [] = s := h1
      refine tri_skip ?_
      refine blockQ_normal ?_
      refine thenQ_normal ?_
      refine tri_slots [(0, _), (3, _), (4, _)] (.cons rfl (.cons rfl (.cons rfl (.nil _)))) ?_
      refine tri_region ?_
      refine o_move rfl rfl ?_
      refine o_addN rfl rfl rfl (by omega) ?_
      refine o_assign rfl rfl ?_
      refine triL_nil ?_
      refine thenQ_normal ?_
      exact ⟨i + 1, (.cons rfl (.cons rfl (.cons rfl (.nil _)))), fun _ h => h, ⟨by omega, by rw [take_snocS wds i hi5]; intro hm; rcases List.mem_append.1 hm with hm | hm; exact hi.2 hm; exact h1 (List.mem_singleton.1 hm).symm⟩, by omega⟩
  · skip
    refine tri_exit ?_
    refine thenQ_exit ?_
    refine thenQ_exit ?_
    refine blockQ_here ?_
    refine thenQ_normal ?_
    refine tri_seq ?_
    refine tri_slots [] (.nil _) ?_
    refine tri_region ?_
    refine o_assign rfl rfl ?_
    refine triL_nil ?_
    refine thenQ_normal ?_
    refine tri_ret ?_
    refine end1 rfl rfl ?_
    exact fun w1 hw1 => ⟨congrArg (fun b => Ending.returned (.bool b)) (by refine (decide_eq_false ?_).symm; have h := hi.2; rwa [List.take_of_length_le (by rw [wds_len]; omega)] at h), hw1.chg⟩

def awS : List UInt8 := [83, 101, 108, 101, 99, 116, 32, 97, 49, 60, 61, 51, 32, 45, 45, 32, 120]
def awT : List Tok := [⟨1, [115, 101, 108, 101, 99, 116], 0⟩, ⟨1, [97, 49], 7⟩, ⟨4, [60, 61], 9⟩, ⟨2, [51], 11⟩, ⟨5, [], 17⟩]
theorem awL : lexL awS = .ok awT := by kernel_rfl
theorem awLex (w : World) (hE : LE w) : Calls Tryd.prog 9 #[.string (B awS)] w (NewRowF (fun v => .tuple #[v, .nilIface]) w 32 3 5 (toksV awT)) := by
  have h := lexK awS w (by decide) hE
  rw [awL] at h
  exact h

theorem awakeK  (w : World) (hE : LE w) : Calls Tryd.prog 8 #[] w (Pure w (.bool true)) := by
  refine calls_tri (args := []) (lent := []) (H := []) Tryd.func8 rfl Tryd.ntmps8 rfl (Sat.start _ _ _ _) ?_
  refine (show Tri _ [] _ _ _ from ?_)
  refine tri_seq ?_
  refine tri_region ?_
  refine o_assign rfl rfl ?_
  refine triL_nil ?_
  refine thenQ_normal ?_
  refine tri_seq ?_
  refine tri_region ?_
  refine o_callF (vs := [.string (B awS)]) (first := []) (cap := []) (fun v => .tuple #[v, .nilIface]) rfl rfl rfl Tryd.call9 (fun w1 h1 => awLex w1 (hE.chg h1.chg)) (fun A4 c4 => ?_)
  refine o_move rfl rfl ?_
  refine o_extract rfl rfl rfl ?_
  refine o_extract rfl rfl rfl ?_
  refine o_assign rfl rfl ?_
  refine o_assign rfl rfl ?_
  refine triL_nil ?_
  refine thenQ_normal ?_
  refine tri_seq ?_
  refine tri_slots [(2, _), (1, _)] (.cons rfl (.cons rfl (.nil _))) ?_
  refine tri_region ?_
  refine o_move rfl rfl ?_
  refine o_eqlErr ifE (.inl ⟨rfl, rfl⟩) rfl rfl ?_
  refine o_move rfl rfl ?_
  refine' triL_and [_, _, _] [(1, _)] (dj := 9) (dr := 12) rfl rfl (fun g1 => ?_) ⟨_, rfl, rfl, rfl, (.cons rfl (.nil _))⟩ rfl ?_
  rotate_left
  · skip
    refine o_move rfl rfl ?_
    refine o_lenS Tryd.underlying26 rfl rfl ?_
    refine o_eqlI rfl rfl rfl ?_
    exact triL_nil (Piece.mk rfl rfl (.cons rfl (.nil _)) (fun _ h => h))
  refine o_move rfl rfl ?_
  refine' triL_and [_, _, _, _, _] [(1, _)] (dj := 14) (dr := 19) rfl rfl (fun g2 => ?_) ⟨_, rfl, rfl, rfl, (.cons rfl (.nil _))⟩ rfl ?_
  rotate_left
  · skip
    refine o_move rfl rfl ?_
    refine o_idxS Tryd.underlying26 sz32 rfl rfl rfl (RdS.row .z) (by omega) (by omega) rfl (by decide) ?_
    refine o_loadTk 0 agg32 sz32 rfl rfl (RdS.row .z) (by omega) (by decide) ?_
    refine o_build (bval32_0_1 _ _) rfl rfl ?_
    refine o_eqlTk flat32 rfl rfl rfl ?_
    exact triL_nil (Piece.mk rfl rfl (.cons rfl (.nil _)) (fun _ h => h))
  refine o_move rfl rfl ?_
  refine' triL_and [_, _, _, _, _] [(1, _)] (dj := 21) (dr := 26) rfl rfl (fun g3 => ?_) ⟨_, rfl, rfl, rfl, (.cons rfl (.nil _))⟩ rfl ?_
  rotate_left
  · skip
    refine o_move rfl rfl ?_
    refine o_idxS Tryd.underlying26 sz32 rfl rfl rfl (RdS.row .z) (by omega) (by omega) rfl (by decide) ?_
    refine o_loadTk 2 agg32 sz32 rfl rfl (RdS.row .z) (by omega) (by decide) ?_
    refine o_build (bval32_0_1_2 _ _ _) rfl rfl ?_
    refine o_eqlTk flat32 rfl rfl rfl ?_
    exact triL_nil (Piece.mk rfl rfl (.cons rfl (.nil _)) (fun _ h => h))
  refine o_move rfl rfl ?_
  refine' triL_and [_, _, _, _, _] [] (dj := 28) (dr := 33) rfl rfl (fun g4 => ?_) ⟨_, rfl, rfl, rfl, (.nil _)⟩ rfl ?_
  rotate_left
  · skip
    refine o_move rfl rfl ?_
    refine o_idxS Tryd.underlying26 sz32 rfl rfl rfl (RdS.row .z) (by omega) (by omega) rfl (by decide) ?_
    refine o_loadTk 4 agg32 sz32 rfl rfl (RdS.row .z) (by omega) (by decide) ?_
    refine o_build (bval32_0_2 _ _) rfl rfl ?_
    refine o_eqlTk flat32 rfl rfl rfl ?_
    exact triL_nil (Piece.mk rfl rfl (.nil _) (fun _ h => h))
  refine o_move rfl rfl ?_
  refine' triL_and [_] [] (dj := 35) (dr := 36) rfl rfl (fun g5 => ?_) ⟨_, rfl, rfl, rfl, (.nil _)⟩ rfl ?_
  rotate_left
  · skip
    refine o_callP (first := []) (cap := []) rfl rfl rfl Tryd.call6 (fun w1 h1 => wordK [98, 121] w1) ?_
    exact triL_nil (Piece.mk rfl rfl (.nil _) (fun _ h => h))
  refine o_assign rfl rfl ?_
  refine triL_nil ?_
  refine thenQ_normal ?_
  refine tri_ret ?_
  refine end1 rfl rfl ?_
  exact fun w1 hw1 => ⟨congrArg (fun b => Ending.returned (.bool b)) (by decide), hw1.chg⟩

theorem lexWords (s : List UInt8) (w : World) (hE : LE w) : Calls Tryd.prog 3 #[.string (B s)] w (Pure w (.bool true)) := by
  refine calls_tri (args := [.string (B s)]) (lent := []) (H := []) Tryd.func3 rfl Tryd.ntmps3 rfl (Sat.start _ _ _ _) ?_
  refine (show Tri _ [(0, _)] _ _ _ from ?_)
  refine tri_seq ?_
  refine tri_region ?_
  refine o_assign rfl rfl ?_
  refine triL_nil ?_
  refine thenQ_normal ?_
  refine tri_seq ?_
  refine tri_region ?_
  refine o_callF (first := []) (cap := []) id rfl rfl rfl Tryd.call5 (fun w1 h1 => wordsR w1) (fun A5 c5 => ?_)
  refine o_assign rfl rfl ?_
  refine triL_nil ?_
  refine thenQ_normal ?_
  refine tri_seq ?_
  refine tri_seq ?_
  refine tri_region ?_
  refine o_assign rfl rfl ?_
  refine triL_nil ?_
  refine thenQ_normal ?_
  refine tri_block ?_
  refine tri_loop (ι := Nat) (F := fun i => [(0, .string (B s)), (3, .slice A5 35 c5), (4, .int .i64 (i : Int))]) (HH := fun i => [row (.slice A5 35 c5) 9 1 35 (strsV wds)]) (Pu := fun i => i ≤ 35) (μ := fun i => 35 - i) (0) (.cons rfl (.cons rfl (.cons rfl (.nil _)))) (fun _ h => h) (by omega) (fun i hi => ?_)
  refine tri_seq ?_
  refine tri_seq ?_
  refine tri_region ?_
  refine o_move rfl rfl ?_
  refine o_move rfl rfl ?_
  refine o_lenS Tryd.underlying22 rfl rfl ?_
  refine o_lss rfl rfl rfl ?_
  refine triL_nil ?_
  refine thenQ_normal ?_
  refine tri_if rfl (fun h0 => ?_) (fun h0 => ?_)
  · skip
    have hi5 : i < wds.length := by rw [wds_len]; omega
    refine tri_skip ?_
    refine thenQ_normal ?_
    refine tri_seq ?_
    refine tri_block ?_
    refine tri_seq ?_
    refine tri_slots [(0, _), (3, _), (4, _)] (.cons rfl (.cons rfl (.cons rfl (.nil _)))) ?_
    refine tri_region ?_
    refine o_move rfl rfl ?_
    refine o_move rfl rfl ?_
    refine o_idxS Tryd.underlying22 sz9 rfl rfl rfl (RdS.row .z) (by omega) (by omega) (by rw [strsV_length]; rfl) (by decide) ?_
    refine o_loadR agg9 rfl rfl (RdS.row .z) (strsV_get wds i _ (by omega) hi5) ?_
    refine o_callP (first := []) (cap := []) rfl rfl rfl Tryd.call6 (fun w1 h1 => wordK (wds.getD i []) w1) ?_
    refine o_not rfl rfl ?_
    refine triL_nil ?_
    refine thenQ_normal ?_
    refine tri_cond_false (congrArg (fun b : Bool => some (Value.bool b)) (by rw [decide_eq_true (getD_memS wds i hi5)]; rfl)) ?_
    refine tri_skip ?_
    refine blockQ_normal ?_
    refine thenQ_normal ?_
    refine tri_slots [(0, _), (3, _), (4, _)] (.cons rfl (.cons rfl (.cons rfl (.nil _)))) ?_
    refine tri_region ?_
    refine o_move rfl rfl ?_
    refine o_addN rfl rfl rfl (by omega) ?_
    refine o_assign rfl rfl ?_
    refine triL_nil ?_
    refine thenQ_normal ?_
    exact ⟨i + 1, (.cons rfl (.cons rfl (.cons rfl (.nil _)))), fun _ h => h, by omega, by omega⟩
  · skip
    refine tri_exit ?_
    refine thenQ_exit ?_
    refine thenQ_exit ?_
    refine blockQ_here ?_
    refine thenQ_normal ?_
    refine tri_seq ?_
    refine tri_slots [(0, _)] (.cons rfl (.nil _)) ?_
    refine tri_region ?_
    refine o_move rfl rfl ?_
    refine o_callP (first := []) (cap := []) rfl rfl rfl Tryd.call6 (fun w_ hw_ => wordK _ w_) ?_
    refine o_move rfl rfl ?_
    refine o_callP (first := []) (cap := []) rfl rfl rfl Tryd.call7 (fun w_ hw_ => wordR _ w_) ?_
    refine o_eqlB rfl Tryd.underlying4 rfl rfl ?_
    refine o_move rfl rfl ?_
    refine' triL_and [_] [] (dj := 23) (dr := 24) rfl rfl (fun g1 => ?_) ⟨_, rfl, rfl, rfl, (.nil _)⟩ rfl ?_
    rotate_left
    · skip
      refine o_callP (first := []) (cap := []) rfl rfl rfl Tryd.call8 (fun w_ hw_ => awakeK w_ (hE.chg hw_.chg)) ?_
      exact triL_nil (Piece.mk rfl rfl (.nil _) (fun _ h => h))
    refine o_assign rfl rfl ?_
    refine triL_nil ?_
    refine thenQ_normal ?_
    refine tri_ret ?_
    refine end1 rfl rfl ?_
    exact fun w1 hw1 => ⟨congrArg (fun b => Ending.returned (.bool b)) (by simp), hw1.chg⟩

end Go.Proofs.YtdcdpegomncomaaDoor
