/- the law's small functions, walked; which words are kept -/
import Derived.Test.YtdcdpegomncomaaGreatDoorWalks3
import Derived.Test.YtdcdpegomncomaaGreatDoorLex6
namespace Go.Proofs.YtdcdpegomncomaaGreatDoor
open Go.WK Go.RowKit 

theorem bval35_0_1 (x : Int) (y : List UInt8) : Tryz.prog.built 35 [(0, .int .i64 x), (1, .string (B y))] = some (Tok.cs ⟨x, y, 0⟩).toArray := by kernel_rfl
theorem flat35 : flatB Tryz.prog 35 = some tokKs := by kernel_rfl
theorem bval35_0_1_2 (x : Int) (y : List UInt8) (z : Int) : Tryz.prog.built 35 [(0, .int .i64 x), (1, .string (B y)), (2, .int .i64 z)] = some (Tok.cs ⟨x, y, z⟩).toArray := by kernel_rfl

def awS : List UInt8 := [83, 101, 108, 101, 99, 116, 32, 97, 49, 60, 61, 51, 32, 45, 45, 32, 120]
def awT : List Tok := [⟨1, [115, 101, 108, 101, 99, 116], 0⟩, ⟨1, [97, 49], 7⟩, ⟨4, [60, 61], 9⟩, ⟨2, [51], 11⟩, ⟨5, [], 17⟩]
theorem awL : lexL awS = .ok awT := by kernel_rfl
theorem awLex (w : World) (hE : LE w) : Calls Tryz.prog 5 #[.string (B awS)] w (NewRowF (fun v => .tuple #[v, .nilIface]) w 35 3 5 (toksV awT)) := by
  have h := lexK awS w (by decide) hE
  rw [awL] at h
  exact h

theorem awakeK  (w : World) (hE : LE w) : Calls Tryz.prog 9 #[] w (Pure w (.bool true)) := by
  refine calls_tri (args := []) (lent := []) (H := []) Tryz.func9 rfl Tryz.ntmps9 rfl (Sat.start _ _ _ _) ?_
  refine (show Tri _ [] _ _ _ from ?_)
  refine tri_seq ?_
  refine tri_region ?_
  refine o_assign rfl rfl ?_
  refine triL_nil ?_
  refine thenQ_normal ?_
  refine tri_seq ?_
  refine tri_region ?_
  refine o_callF (vs := [.string (B awS)]) (first := []) (cap := []) (fun v => .tuple #[v, .nilIface]) rfl rfl rfl Tryz.call5 (fun w1 h1 => awLex w1 (hE.chg h1.chg)) (fun A4 c4 => ?_)
  refine o_move rfl rfl ?_
  refine o_extract rfl rfl rfl ?_
  refine o_extract rfl rfl rfl ?_
  refine o_assign rfl rfl ?_
  refine o_assign rfl rfl ?_
  refine triL_nil ?_
  refine thenQ_normal ?_
  refine tri_seq ?_
  refine tri_slots [(2, _), (1, _)] (.cons rfl (.cons rfl (.nil _))) ?_
  refine tri_region ?_
  refine o_move rfl rfl ?_
  refine o_eqlErr ifE (.inl ⟨rfl, rfl⟩) rfl rfl ?_
  refine o_move rfl rfl ?_
  refine' triL_and [_, _, _] [(1, _)] (dj := 9) (dr := 12) rfl rfl (fun g1 => ?_) ⟨_, rfl, rfl, rfl, (.cons rfl (.nil _))⟩ rfl ?_
  rotate_left
  · skip
    refine o_move rfl rfl ?_
    refine o_lenS Tryz.underlying22 rfl rfl ?_
    refine o_eqlI rfl rfl rfl ?_
    exact triL_nil (Piece.mk rfl rfl (.cons rfl (.nil _)) (fun _ h => h))
  refine o_move rfl rfl ?_
  refine' triL_and [_, _, _, _, _] [(1, _)] (dj := 14) (dr := 19) rfl rfl (fun g2 => ?_) ⟨_, rfl, rfl, rfl, (.cons rfl (.nil _))⟩ rfl ?_
  rotate_left
  · skip
    refine o_move rfl rfl ?_
    refine o_idxS Tryz.underlying22 sz35 rfl rfl rfl (RdS.row .z) (by omega) (by omega) rfl (by decide) ?_
    refine o_loadTk 0 agg35 sz35 rfl rfl (RdS.row .z) (by omega) (by decide) ?_
    refine o_build (bval35_0_1 _ _) rfl rfl ?_
    refine o_eqlTk flat35 rfl rfl rfl ?_
    exact triL_nil (Piece.mk rfl rfl (.cons rfl (.nil _)) (fun _ h => h))
  refine o_move rfl rfl ?_
  refine' triL_and [_, _, _, _, _] [(1, _)] (dj := 21) (dr := 26) rfl rfl (fun g3 => ?_) ⟨_, rfl, rfl, rfl, (.cons rfl (.nil _))⟩ rfl ?_
  rotate_left
  · skip
    refine o_move rfl rfl ?_
    refine o_idxS Tryz.underlying22 sz35 rfl rfl rfl (RdS.row .z) (by omega) (by omega) rfl (by decide) ?_
    refine o_loadTk 2 agg35 sz35 rfl rfl (RdS.row .z) (by omega) (by decide) ?_
    refine o_build (bval35_0_1_2 _ _ _) rfl rfl ?_
    refine o_eqlTk flat35 rfl rfl rfl ?_
    exact triL_nil (Piece.mk rfl rfl (.cons rfl (.nil _)) (fun _ h => h))
  refine o_move rfl rfl ?_
  refine' triL_and [_, _, _, _, _] [] (dj := 28) (dr := 33) rfl rfl (fun g4 => ?_) ⟨_, rfl, rfl, rfl, (.nil _)⟩ rfl ?_
  rotate_left
  · skip
    refine o_move rfl rfl ?_
    refine o_idxS Tryz.underlying22 sz35 rfl rfl rfl (RdS.row .z) (by omega) (by omega) rfl (by decide) ?_
    refine o_loadTk 4 agg35 sz35 rfl rfl (RdS.row .z) (by omega) (by decide) ?_
    refine o_build (bval35_0_2 _ _) rfl rfl ?_
    refine o_eqlTk flat35 rfl rfl rfl ?_
    exact triL_nil (Piece.mk rfl rfl (.nil _) (fun _ h => h))
  refine o_move rfl rfl ?_
  refine' triL_and [_] [] (dj := 35) (dr := 36) rfl rfl (fun g5 => ?_) ⟨_, rfl, rfl, rfl, (.nil _)⟩ rfl ?_
  rotate_left
  · skip
    refine o_callP (first := []) (cap := []) rfl rfl rfl Tryz.call24 (fun w1 h1 => wordK [98, 121] w1) ?_
    exact triL_nil (Piece.mk rfl rfl (.nil _) (fun _ h => h))
  refine o_assign rfl rfl ?_
  refine triL_nil ?_
  refine thenQ_normal ?_
  refine tri_ret ?_
  refine end1 rfl rfl ?_
  exact fun w1 hw1 => ⟨congrArg (fun b => Ending.returned (.bool b)) (by decide), hw1.chg⟩

end Go.Proofs.YtdcdpegomncomaaGreatDoor
