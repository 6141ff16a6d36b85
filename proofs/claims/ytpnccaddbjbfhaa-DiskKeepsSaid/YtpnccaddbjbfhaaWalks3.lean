/- disks made, and nil ones, walked -/
import Derived.Test.YtpnccaddbjbfhaaWalks2
namespace Go.Proofs.Ytpnccaddbjbfhaa
open Go.WK Go.RowKit 

theorem built47  : Try.prog.built 47 [] = some ([.int .i64 0, .int .i64 0, .int .i64 0] : List Value).toArray := by rfl
theorem zsb66 : (Try.prog.info? 66).map (fun i => (i.zero, i.size, i.bytes)) = some (some ((.agg (bytesV (List.replicate 512 0)).toArray)), 512, 512) := by kernel_rfl
theorem built63_0_2 (A0 : Option Addr) (n0 c0 : Nat) (x2 : Int) : Try.prog.built 63 [(0, .slice A0 n0 c0), (2, .int .i64 x2)] = some ([.slice A0 n0 c0, .slice none 0 0, .int .i64 x2, .bool false, .int .i64 0, .int .i64 0, .int .i64 0] : List Value).toArray := by rfl

theorem sectors0  (w : World)  : Calls Try.prog 20 #[.pointer none] w (Pure w (.int .i64 0)) := by
  refine calls_tri (args := [.pointer none]) (lent := []) (H := []) Try.func20 rfl Try.ntmps20 rfl (Sat.start _ _ _ _) ?_
  refine (show Tri _ [(0, _)] _ _ _ from ?_)
  refine tri_seq ?_
  refine tri_region ?_
  refine o_assign rfl rfl ?_
  refine triL_nil ?_
  refine thenQ_normal ?_
  refine tri_seq ?_
  refine tri_seq ?_
  refine tri_region ?_
  refine o_move rfl rfl ?_
  refine o_eqlNil Try.underlying24 rfl rfl rfl ?_
  refine triL_nil ?_
  refine thenQ_normal ?_
  refine tri_cond_true rfl ?_
  refine tri_seq ?_
  refine tri_slots [] (.nil _) ?_
  refine tri_region ?_
  refine o_assign rfl rfl ?_
  refine triL_nil ?_
  refine thenQ_normal ?_
  refine tri_ret ?_
  refine thenQ_ret ?_
  refine end1 rfl rfl ?_
  exact fun w1 hw1 => ⟨rfl, hw1.chg⟩

theorem pending0  (w : World)  : Calls Try.prog 16 #[.pointer none] w (Pure w (.int .i64 0)) := by
  refine calls_tri (args := [.pointer none]) (lent := []) (H := []) Try.func16 rfl Try.ntmps16 rfl (Sat.start _ _ _ _) ?_
  refine (show Tri _ [(0, _)] _ _ _ from ?_)
  refine tri_seq ?_
  refine tri_region ?_
  refine o_assign rfl rfl ?_
  refine triL_nil ?_
  refine thenQ_normal ?_
  refine tri_seq ?_
  refine tri_seq ?_
  refine tri_region ?_
  refine o_move rfl rfl ?_
  refine o_eqlNil Try.underlying24 rfl rfl rfl ?_
  refine triL_nil ?_
  refine thenQ_normal ?_
  refine tri_cond_true rfl ?_
  refine tri_seq ?_
  refine tri_slots [] (.nil _) ?_
  refine tri_region ?_
  refine o_assign rfl rfl ?_
  refine triL_nil ?_
  refine thenQ_normal ?_
  refine tri_ret ?_
  refine thenQ_ret ?_
  refine end1 rfl rfl ?_
  exact fun w1 hw1 => ⟨rfl, hw1.chg⟩

theorem dark0  (w : World)  : Calls Try.prog 22 #[.pointer none] w (Pure w (.bool false)) := by
  refine calls_tri (args := [.pointer none]) (lent := []) (H := []) Try.func22 rfl Try.ntmps22 rfl (Sat.start _ _ _ _) ?_
  refine (show Tri _ [(0, _)] _ _ _ from ?_)
  refine tri_seq ?_
  refine tri_region ?_
  refine o_assign rfl rfl ?_
  refine triL_nil ?_
  refine thenQ_normal ?_
  refine tri_seq ?_
  refine tri_region ?_
  refine o_move rfl rfl ?_
  refine o_neqNil Try.underlying24 rfl rfl rfl ?_
  refine o_move rfl rfl ?_
  refine' triL_and [_, _, _, _] [(2, _)] (dj := 5) (dr := 9) (y := false) rfl rfl (fun g1 => ?_) ⟨_, rfl, rfl, rfl, (.cons rfl (.nil _))⟩ rfl ?_
  · skip
    cases g1
  refine o_assign rfl rfl ?_
  refine triL_nil ?_
  refine thenQ_normal ?_
  refine tri_ret ?_
  refine end1 rfl rfl ?_
  exact fun w1 hw1 => ⟨rfl, hw1.chg⟩

theorem counts0  (w : World)  : Calls Try.prog 23 #[.pointer none] w (Pure w (.agg #[.int .i64 0, .int .i64 0, .int .i64 0])) := by
  refine calls_tri (args := [.pointer none]) (lent := []) (H := []) Try.func23 rfl Try.ntmps23 rfl (Sat.start _ _ _ _) ?_
  refine (show Tri _ [(0, _)] _ _ _ from ?_)
  refine tri_seq ?_
  refine tri_region ?_
  refine o_alloc _ rfl zero47 rfl (fun b2 => ?_)
  refine triL_nil ?_
  refine thenQ_normal ?_
  refine tri_seq ?_
  refine tri_seq ?_
  refine tri_region ?_
  refine o_move rfl rfl ?_
  refine o_eqlNil Try.underlying24 rfl rfl rfl ?_
  refine triL_nil ?_
  refine thenQ_normal ?_
  refine tri_cond_true rfl ?_
  refine tri_seq ?_
  refine tri_region ?_
  refine o_build built47 rfl rfl ?_
  refine o_store sz47 (by first | exact Nth.z | exact .s .z | exact .s (.s .z) | exact .s (.s (.s .z)) | exact .s (.s (.s (.s .z))) | exact .s (.s (.s (.s (.s .z)))) | exact .s (.s (.s (.s (.s (.s .z))))) | exact .s (.s (.s (.s (.s (.s (.s .z))))))) rfl rfl rfl rfl rfl (Nat.le_of_ble_eq_true rfl) rfl ?_
  refine triL_nil ?_
  refine thenQ_normal ?_
  refine tri_ret ?_
  refine thenQ_ret ?_
  refine endC1 rfl agg47 sz47 (by first | exact Nth.z | exact .s .z | exact .s (.s .z) | exact .s (.s (.s .z)) | exact .s (.s (.s (.s .z))) | exact .s (.s (.s (.s (.s .z)))) | exact .s (.s (.s (.s (.s (.s .z))))) | exact .s (.s (.s (.s (.s (.s (.s .z))))))) rfl rfl ?_
  exact fun w1 hw1 => ⟨rfl, hw1.chg⟩

theorem goes0  (w : World)  : Calls Try.prog 29 #[.pointer none] w (Pure w (.bool false)) := by
  refine calls_tri (args := [.pointer none]) (lent := []) (H := []) Try.func29 rfl Try.ntmps29 rfl (Sat.start _ _ _ _) ?_
  refine (show Tri _ [(0, _)] _ _ _ from ?_)
  refine tri_seq ?_
  refine tri_region ?_
  refine o_assign rfl rfl ?_
  refine triL_nil ?_
  refine thenQ_normal ?_
  refine tri_seq ?_
  refine tri_seq ?_
  refine tri_region ?_
  refine o_move rfl rfl ?_
  refine o_eqlNil Try.underlying24 rfl rfl rfl ?_
  refine o_move rfl rfl ?_
  refine' triL_or [_, _, _, _, _, _] [(0, _)] (dj := 5) (dr := 11) (y := false) rfl rfl (fun g1 => ?_) ⟨_, rfl, rfl, rfl, (.cons rfl (.nil _))⟩ rfl ?_
  · skip
    cases g1
  refine o_move rfl rfl ?_
  refine' triL_or [_, _, _, _] [(0, _)] (dj := 13) (dr := 17) (y := false) rfl rfl (fun g2 => ?_) ⟨_, rfl, rfl, rfl, (.cons rfl (.nil _))⟩ rfl ?_
  · skip
    cases g2
  refine triL_nil ?_
  refine thenQ_normal ?_
  refine tri_cond_true rfl ?_
  refine tri_seq ?_
  refine tri_region ?_
  refine o_assign rfl rfl ?_
  refine triL_nil ?_
  refine thenQ_normal ?_
  refine tri_ret ?_
  refine thenQ_ret ?_
  refine end1 rfl rfl ?_
  exact fun w1 hw1 => ⟨rfl, hw1.chg⟩

theorem read0 (at_ : Int) (w : World)  : Calls Try.prog 18 #[.pointer none, .int .i64 at_] w (Pure w (.tuple #[.slice none 0 0, .int .i64 2])) := by
  refine calls_tri (args := [.pointer none, .int .i64 at_]) (lent := []) (H := []) Try.func18 rfl Try.ntmps18 rfl (Sat.start _ _ _ _) ?_
  refine (show Tri _ [(0, _), (1, _)] _ _ _ from ?_)
  refine tri_seq ?_
  refine tri_region ?_
  refine o_assign rfl rfl ?_
  refine o_assign rfl rfl ?_
  refine triL_nil ?_
  refine thenQ_normal ?_
  refine tri_seq ?_
  refine tri_block ?_
  refine tri_seq ?_
  refine tri_region ?_
  refine o_move rfl rfl ?_
  refine o_lss rfl rfl rfl ?_
  refine o_move rfl rfl ?_
  refine' triL_or [_, _, _, _] [(0, _), (1, _)] (dj := 12) (dr := 16) rfl rfl (fun g1 => ?_) ⟨_, rfl, rfl, rfl, (.cons rfl (.cons rfl (.nil _)))⟩ rfl ?_
  rotate_left
  · skip
    skip
    refine o_move rfl rfl ?_
    refine o_move rfl rfl ?_
    refine o_callP (first := []) (cap := []) rfl rfl rfl Try.call20 (fun w1 h1 => sectors0 w1) ?_
    refine o_geq rfl rfl rfl ?_
    exact triL_nil (Piece.mk rfl rfl (.cons rfl (.cons rfl (.nil _))) (fun _ h => h))
  refine o_assign rfl rfl ?_
  refine triL_nil ?_
  refine thenQ_normal ?_
  refine tri_cond rfl (fun h0 => ?_) (fun h0 => ?_)
  · skip
    refine tri_seq ?_
    refine tri_slots [] (.nil _) ?_
    refine tri_region ?_
    refine o_assign rfl rfl ?_
    refine o_assign rfl rfl ?_
    refine triL_nil ?_
    refine thenQ_normal ?_
    refine tri_ret ?_
    refine blockQ_ret ?_
    refine thenQ_ret ?_
    refine end2 rfl rfl rfl ?_
    exact fun w1 hw1 => ⟨rfl, hw1.chg⟩
  · skip
    exact absurd h0 (by simp <;> omega)

theorem write0 (at_ : Int) (A : Option Addr) (n c : Nat) (w : World)  : Calls Try.prog 13 #[.pointer none, .int .i64 at_, .slice A n c] w (Pure w (.int .i64 2)) := by
  refine calls_tri (args := [.pointer none, .int .i64 at_, .slice A n c]) (lent := []) (H := []) Try.func13 rfl Try.ntmps13 rfl (Sat.start _ _ _ _) ?_
  refine (show Tri _ [(0, _), (1, _), (2, _)] _ _ _ from ?_)
  refine tri_seq ?_
  refine tri_region ?_
  refine o_assign rfl rfl ?_
  refine triL_nil ?_
  refine thenQ_normal ?_
  refine tri_seq ?_
  refine tri_block ?_
  refine tri_seq ?_
  refine tri_region ?_
  refine o_move rfl rfl ?_
  refine o_lss rfl rfl rfl ?_
  refine o_move rfl rfl ?_
  refine' triL_or [_, _, _, _] [(0, _), (1, _), (2, _)] (dj := 10) (dr := 14) rfl rfl (fun g1 => ?_) ⟨_, rfl, rfl, rfl, (.cons rfl (.cons rfl (.cons rfl (.nil _))))⟩ rfl ?_
  rotate_left
  · skip
    skip
    refine o_move rfl rfl ?_
    refine o_move rfl rfl ?_
    refine o_callP (first := []) (cap := []) rfl rfl rfl Try.call20 (fun w1 h1 => sectors0 w1) ?_
    refine o_geq rfl rfl rfl ?_
    exact triL_nil (Piece.mk rfl rfl (.cons rfl (.cons rfl (.cons rfl (.nil _)))) (fun _ h => h))
  refine o_assign rfl rfl ?_
  refine triL_nil ?_
  refine thenQ_normal ?_
  refine tri_cond rfl (fun h0 => ?_) (fun h0 => ?_)
  · skip
    refine tri_seq ?_
    refine tri_slots [] (.nil _) ?_
    refine tri_region ?_
    refine o_assign rfl rfl ?_
    refine triL_nil ?_
    refine thenQ_normal ?_
    refine tri_ret ?_
    refine blockQ_ret ?_
    refine thenQ_ret ?_
    refine end1 rfl rfl ?_
    exact fun w1 hw1 => ⟨rfl, hw1.chg⟩
  · skip
    exact absurd h0 (by simp <;> omega)

theorem sync0  (w : World)  : Calls Try.prog 15 #[.pointer none] w (Pure w (.int .i64 8)) := by
  refine calls_tri (args := [.pointer none]) (lent := []) (H := []) Try.func15 rfl Try.ntmps15 rfl (Sat.start _ _ _ _) ?_
  refine (show Tri _ [(0, _)] _ _ _ from ?_)
  refine tri_seq ?_
  refine tri_region ?_
  refine o_assign rfl rfl ?_
  refine triL_nil ?_
  refine thenQ_normal ?_
  refine tri_seq ?_
  refine tri_seq ?_
  refine tri_region ?_
  refine o_move rfl rfl ?_
  refine o_callP (first := []) (cap := []) rfl rfl rfl Try.call29 (fun w1 h1 => goes0 w1) ?_
  refine o_not rfl rfl ?_
  refine triL_nil ?_
  refine thenQ_normal ?_
  refine tri_cond_true rfl ?_
  refine tri_seq ?_
  refine tri_slots [] (.nil _) ?_
  refine tri_region ?_
  refine o_assign rfl rfl ?_
  refine triL_nil ?_
  refine thenQ_normal ?_
  refine tri_ret ?_
  refine thenQ_ret ?_
  refine end1 rfl rfl ?_
  exact fun w1 hw1 => ⟨rfl, hw1.chg⟩

theorem trip0 (n : Int) (w : World)  : Calls Try.prog 27 #[.pointer none, .int .i64 n] w (Pure w (.tuple #[])) := by
  refine calls_tri (args := [.pointer none, .int .i64 n]) (lent := []) (H := []) Try.func27 rfl Try.ntmps27 rfl (Sat.start _ _ _ _) ?_
  refine (show Tri _ [(0, _), (1, _)] _ _ _ from ?_)
  refine tri_seq ?_
  refine tri_region ?_
  refine o_move rfl rfl ?_
  refine o_callP (first := []) (cap := []) rfl rfl rfl Try.call20 (fun w1 h1 => sectors0 w1) ?_
  refine o_gtr rfl rfl rfl ?_
  refine o_move rfl rfl ?_
  refine' triL_and [_, _, _, _, _] [(0, _), (1, _)] (dj := 7) (dr := 12) (y := false) rfl rfl (fun g1 => ?_) ⟨_, rfl, rfl, rfl, (.cons rfl (.cons rfl (.nil _)))⟩ rfl ?_
  · skip
    cases g1
  refine triL_nil ?_
  refine thenQ_normal ?_
  refine tri_cond_false rfl ?_
  refine tri_skip ?_
  refine end0n rfl ?_
  exact fun w1 hw1 => ⟨rfl, hw1.chg⟩

theorem cut0 (A : Option Addr) (n c : Nat) (w : World)  : Calls Try.prog 17 #[.pointer none, .slice A n c] w (Pure w (.tuple #[])) := by
  refine calls_tri (args := [.pointer none, .slice A n c]) (lent := []) (H := []) Try.func17 rfl Try.ntmps17 rfl (Sat.start _ _ _ _) ?_
  refine (show Tri _ [(0, _), (1, _)] _ _ _ from ?_)
  refine tri_seq ?_
  refine tri_seq ?_
  refine tri_region ?_
  refine o_move rfl rfl ?_
  refine o_callP (first := []) (cap := []) rfl rfl rfl Try.call20 (fun w1 h1 => sectors0 w1) ?_
  refine o_eqlI rfl rfl rfl ?_
  refine triL_nil ?_
  refine thenQ_normal ?_
  refine tri_cond_true rfl ?_
  refine tri_ret ?_
  refine thenQ_ret ?_
  refine end0 rfl ?_
  exact fun w1 hw1 => ⟨rfl, hw1.chg⟩

theorem image0  (w : World)  : Calls Try.prog 21 #[.pointer none] w (Pure w (.slice none 0 0)) := by
  refine calls_tri (args := [.pointer none]) (lent := []) (H := []) Try.func21 rfl Try.ntmps21 rfl (Sat.start _ _ _ _) ?_
  refine (show Tri _ [(0, _)] _ _ _ from ?_)
  refine tri_seq ?_
  refine tri_region ?_
  refine o_assign rfl rfl ?_
  refine triL_nil ?_
  refine thenQ_normal ?_
  refine tri_seq ?_
  refine tri_region ?_
  refine o_assign rfl rfl ?_
  refine triL_nil ?_
  refine thenQ_normal ?_
  refine tri_seq ?_
  refine tri_seq ?_
  refine tri_region ?_
  refine o_move rfl rfl ?_
  refine o_callP (first := []) (cap := []) rfl rfl rfl Try.call20 (fun w1 h1 => sectors0 w1) ?_
  refine o_move rfl rfl ?_
  refine triL_nil ?_
  refine thenQ_normal ?_
  refine tri_block ?_
  refine tri_loop (ι := Unit) (F := fun q => [(0, .pointer none), (3, .slice none 0 0), (6, .int .i64 0), (7, .int .i64 0)]) (HH := fun q => []) (Pu := fun q => True) (μ := fun q => 0) (()) (.cons rfl (.cons rfl (.cons rfl (.cons rfl (.nil _))))) (fun _ h => h) (trivial) (fun q hi => ?_)
  refine tri_seq ?_
  refine tri_region ?_
  refine o_lss rfl rfl rfl ?_
  refine triL_nil ?_
  refine thenQ_normal ?_
  refine tri_seq ?_
  refine tri_cond_false rfl ?_
  refine tri_exit ?_
  refine thenQ_exit ?_
  refine thenQ_exit ?_
  refine blockQ_here ?_
  refine thenQ_normal ?_
  refine tri_seq ?_
  refine tri_slots [(3, _)] (.cons rfl (.nil _)) ?_
  refine tri_region ?_
  refine o_move rfl rfl ?_
  refine o_assign rfl rfl ?_
  refine triL_nil ?_
  refine thenQ_normal ?_
  refine tri_ret ?_
  refine end1 rfl rfl ?_
  exact fun w1 hw1 => ⟨rfl, hw1.chg⟩

theorem newK (n : Nat) (w : World) (h1 : 1 ≤ n) (h2 : n ≤ 8192) : Calls Try.prog 9 #[.int .i64 (n : Int)] w (Turn w [] (fun j : Nat × Nat => .tuple #[.pointer (some ⟨j.1, 0, none⟩), .int .i64 0]) (fun j => dkC j.1 (some ⟨j.2, 0, none⟩) n none 0 (Dk.new n)) (fun _ => True)) := by
  refine calls_tri (args := [.int .i64 (n : Int)]) (lent := []) (H := []) Try.func9 rfl Try.ntmps9 rfl (Sat.start _ _ _ _) ?_
  refine (show Tri _ [(0, _)] _ _ _ from ?_)
  refine tri_seq ?_
  refine tri_region ?_
  refine o_assign rfl rfl ?_
  refine o_assign rfl rfl ?_
  refine triL_nil ?_
  refine thenQ_normal ?_
  refine tri_seq ?_
  refine tri_seq ?_
  refine tri_region ?_
  refine o_move rfl rfl ?_
  refine o_lss rfl rfl rfl ?_
  refine o_move rfl rfl ?_
  refine' triL_or [_, _] [(0, _)] (dj := 6) (dr := 8) rfl rfl (fun g1 => ?_) ⟨_, rfl, rfl, rfl, (.cons rfl (.nil _))⟩ rfl ?_
  rotate_left
  · skip
    skip
    refine o_move rfl rfl ?_
    refine o_gtr rfl rfl rfl ?_
    exact triL_nil (Piece.mk rfl rfl (.cons rfl (.nil _)) (fun _ h => h))
  refine triL_nil ?_
  refine thenQ_normal ?_
  refine tri_cond rfl (fun h0 => ?_) (fun h0 => ?_)
  · skip
    exact absurd h0 (by simp; omega)
  · skip
    refine tri_skip ?_
    refine thenQ_normal ?_
    refine tri_seq ?_
    refine tri_region ?_
    refine o_move rfl rfl ?_
    refine o_make (n := n) Try.underlying60 zsb66 rfl rfl rfl (by omega) (by omega) (by omega) (by unfold maxLen; omega) (fun b11 => ?_)
    refine o_build (built63_0_2 _ _ _ _) rfl rfl ?_
    refine o_box _ rfl rfl rfl (fun b13 => ?_)
    refine o_assign rfl rfl ?_
    refine o_assign rfl rfl ?_
    refine triL_nil ?_
    refine thenQ_normal ?_
    refine tri_ret ?_
    refine end2 rfl rfl rfl ?_
    exact fin_turn (b13, b11) rfl trivial (fun w1 hw => by
      rw [dk_new, ← made_secs]
      exact (hw.nilRow 68 513).perm (List.perm_append_comm (l₁ := [_]) (l₂ := [_, _])))

theorem newBad (n : Int) (w : World) (h1 : n < 1 ∨ 8192 < n) : Calls Try.prog 9 #[.int .i64 n] w (Pure w (.tuple #[.pointer none, .int .i64 1])) := by
  refine calls_tri (args := [.int .i64 n]) (lent := []) (H := []) Try.func9 rfl Try.ntmps9 rfl (Sat.start _ _ _ _) ?_
  refine (show Tri _ [(0, _)] _ _ _ from ?_)
  refine tri_seq ?_
  refine tri_region ?_
  refine o_assign rfl rfl ?_
  refine o_assign rfl rfl ?_
  refine triL_nil ?_
  refine thenQ_normal ?_
  refine tri_seq ?_
  refine tri_seq ?_
  refine tri_region ?_
  refine o_move rfl rfl ?_
  refine o_lss rfl rfl rfl ?_
  refine o_move rfl rfl ?_
  refine' triL_or [_, _] [(0, _)] (dj := 6) (dr := 8) rfl rfl (fun g1 => ?_) ⟨_, rfl, rfl, rfl, (.cons rfl (.nil _))⟩ rfl ?_
  rotate_left
  · skip
    skip
    refine o_move rfl rfl ?_
    refine o_gtr rfl rfl rfl ?_
    exact triL_nil (Piece.mk rfl rfl (.cons rfl (.nil _)) (fun _ h => h))
  refine triL_nil ?_
  refine thenQ_normal ?_
  refine tri_cond rfl (fun h0 => ?_) (fun h0 => ?_)
  · skip
    refine tri_seq ?_
    refine tri_region ?_
    refine o_assign rfl rfl ?_
    refine o_assign rfl rfl ?_
    refine triL_nil ?_
    refine thenQ_normal ?_
    refine tri_ret ?_
    refine thenQ_ret ?_
    refine end2 rfl rfl rfl ?_
    exact fun w1 hw1 => ⟨rfl, hw1.chg⟩
  · skip
    exact absurd h0 (by simp <;> omega)

theorem loadK (A : Option Addr) (n c : Nat) (l : List UInt8) (m : Nat) (w : World) (hr : Rd w A (bytesV l)) (hn : l.length = n) (hc : n ≤ c) (hm : n ≤ 140737488351232) (hnm : n = m * 512) (h1 : 1 ≤ m) (h2 : m ≤ 8192) : Calls Try.prog 19 #[.slice A n c] w (Turn w [] (fun j : Nat × Nat => .tuple #[.pointer (some ⟨j.1, 0, none⟩), .int .i64 0]) (fun j => dkC j.1 (some ⟨j.2, 0, none⟩) m none 0 (Dk.load l m)) (fun _ => True)) := by
  refine calls_tri (args := [.slice A n c]) (lent := []) (H := []) Try.func19 rfl Try.ntmps19 rfl (Sat.start _ _ _ _) ?_
  refine (show Tri _ [(0, _)] _ _ _ from ?_)
  have hR : ∀ cx H, cx.w0 = w → cx.lent = [] → RdS cx H A (bytesV l) := fun cx H h1 h2 => RdS.arg (by rw [h1]; exact hr) h2
  refine tri_seq ?_
  refine tri_region ?_
  refine o_assign rfl rfl ?_
  refine o_assign rfl rfl ?_
  refine triL_nil ?_
  refine thenQ_normal ?_
  refine tri_seq ?_
  refine tri_region ?_
  refine o_move rfl rfl ?_
  refine o_lenS Try.underlying32 rfl rfl ?_
  refine o_quoN rfl rfl rfl (by omega) (by omega) (by omega) ?_
  rw [show (n : Int) / 512 = (m : Int) by omega]
  refine o_callM [] [] [] [] rfl rfl rfl rfl Try.call9 (fun c hc => by cases hc) (fun c hc => by cases hc) (fun w1 _ _ => newK m w1 h1 h2) (fun j _ => ?_)
  refine o_move rfl rfl ?_
  refine o_extract rfl rfl rfl ?_
  refine o_extract rfl rfl rfl ?_
  refine o_assign rfl rfl ?_
  refine o_assign rfl rfl ?_
  refine triL_nil ?_
  refine thenQ_normal ?_
  refine tri_seq ?_
  refine tri_seq ?_
  refine tri_slots [(5, _), (4, _), (0, _)] (.cons rfl (.cons rfl (.cons rfl (.nil _)))) ?_
  refine tri_region ?_
  refine o_move rfl rfl ?_
  refine o_neqI rfl rfl rfl ?_
  refine o_move rfl rfl ?_
  refine' triL_or [_, _, _, _] [(4, _), (0, _)] (dj := 16) (dr := 20) rfl rfl (fun g1 => ?_) ⟨_, rfl, rfl, rfl, (.cons rfl (.cons rfl (.nil _)))⟩ rfl ?_
  rotate_left
  · skip
    skip
    refine o_move rfl rfl ?_
    refine o_lenS Try.underlying32 rfl rfl ?_
    refine o_remN rfl rfl rfl (by omega) (by omega) ?_
    refine o_neqI rfl rfl rfl ?_
    exact triL_nil (Piece.mk rfl rfl (.cons rfl (.cons rfl (.nil _))) (fun _ h => h))
  refine triL_nil ?_
  refine thenQ_normal ?_
  refine tri_cond rfl (fun h0 => ?_) (fun h0 => ?_)
  · skip
    exact absurd h0 (by simp; omega)
  · skip
    refine tri_skip ?_
    refine thenQ_normal ?_
    refine tri_seq ?_
    refine tri_seq ?_
    refine tri_region ?_
    refine o_move rfl rfl ?_
    refine o_nilCheck rfl rfl ?_
    refine o_field fo63_0 rfl rfl ?_
    refine o_load agg60 (by first | exact Nth.z | exact .s .z | exact .s (.s .z) | exact .s (.s (.s .z)) | exact .s (.s (.s (.s .z))) | exact .s (.s (.s (.s (.s .z)))) | exact .s (.s (.s (.s (.s (.s .z))))) | exact .s (.s (.s (.s (.s (.s (.s .z))))))) rfl rfl rfl ?_
    refine o_lenS Try.underlying60 rfl rfl ?_
    refine o_move rfl rfl ?_
    refine triL_nil ?_
    refine thenQ_normal ?_
    refine tri_block ?_
    refine tri_loop (ι := Nat) (F := fun i => [(0, .slice A n c), (4, .pointer (some ⟨j.1, 0, none⟩)), (26, .int .i64 (m : Int)), (27, .int .i64 (i : Int))]) (HH := fun i => (dkC j.1 (some ⟨j.2, 0, none⟩) m none 0 { Dk.new m with kept := secs l m i })) (Pu := fun i => i ≤ m) (μ := fun i => m - i) (0) (.cons rfl (.cons rfl (.cons (by show some (Value.int .i64 ((List.replicate m zsec).length : Int)) = _; rw [List.length_replicate]) (.cons rfl (.nil _))))) (fun w1 hw => by rw [secs_zero]; exact hw) (Nat.zero_le _) (fun i hi => ?_)
    refine tri_seq ?_
    refine tri_region ?_
    refine o_lss rfl rfl rfl ?_
    refine triL_nil ?_
    refine thenQ_normal ?_
    refine tri_seq ?_
    refine tri_if rfl (fun h3 => ?_) (fun h3 => ?_)
    · skip
      refine tri_skip ?_
      refine thenQ_normal ?_
      refine tri_seq ?_
      refine tri_block ?_
      refine tri_seq ?_
      refine tri_region ?_
      refine o_move rfl rfl ?_
      refine o_assign rfl rfl ?_
      refine triL_nil ?_
      refine thenQ_normal ?_
      refine tri_mix (_) [(0, true), (1, true), (2, true), (3, true), (4, true), (5, true), (6, true), (7, true), (8, true), (9, true), (10, true), (11, false), (12, false)] [11, 12] (by kernel_rfl) (by kernel_rfl) (fun _ h => h) ?_
      refine mix_fix rfl ?_
      refine o_move rfl rfl ?_
      refine triL_nil ⟨rfl, ?_⟩
      refine mix_fix rfl ?_
      refine o_nilCheck rfl rfl ?_
      refine triL_nil ⟨rfl, ?_⟩
      refine mix_fix rfl ?_
      refine o_field fo63_0 rfl rfl ?_
      refine triL_nil ⟨rfl, ?_⟩
      refine mix_fix rfl ?_
      refine o_load agg60 (by first | exact Nth.z | exact .s .z | exact .s (.s .z) | exact .s (.s (.s .z)) | exact .s (.s (.s (.s .z))) | exact .s (.s (.s (.s (.s .z)))) | exact .s (.s (.s (.s (.s (.s .z))))) | exact .s (.s (.s (.s (.s (.s (.s .z))))))) rfl rfl rfl ?_
      refine triL_nil ⟨rfl, ?_⟩
      refine mix_fix rfl ?_
      refine o_move rfl rfl ?_
      refine triL_nil ⟨rfl, ?_⟩
      refine mix_fix rfl ?_
      refine o_move rfl rfl ?_
      refine triL_nil ⟨rfl, ?_⟩
      refine mix_fix rfl ?_
      refine o_move rfl rfl ?_
      refine triL_nil ⟨rfl, ?_⟩
      refine mix_fix rfl ?_
      refine o_mulN rfl rfl rfl (by omega) ?_
      refine triL_nil ⟨rfl, ?_⟩
      refine mix_fix rfl ?_
      refine o_sliceSl Try.underlying32 sz5 rfl rfl rfl (by omega) (by omega) (by omega) ?_
      refine triL_nil ⟨rfl, ?_⟩
      refine mix_fix rfl ?_
      refine o_arrP Try.underlying66 rfl rfl (by omega) ?_
      refine triL_nil ⟨rfl, ?_⟩
      refine mix_fix rfl ?_
      refine o_loadRA agg66 sz66 rfl rfl (sec_rd (hR _ _ rfl rfl) hn hc i (by omega)) (sec_take l i) (by rw [bytesV_length, sec_len l i (by omega)]) (by decide) ?_
      refine triL_nil ⟨rfl, ?_⟩
      refine mix_rest [11, 12] [_, _] rfl rfl ?_
      refine o_idxS Try.underlying60 sz66 rfl rfl rfl (RdS.row (i := 1) (.s .z)) (by omega) (by show _ < ((secs l m i).length : Int); rw [secs_length]; omega) (by rw [flatV_length (secs_z (secs_all l m i (by omega)))]) (by decide) ?_
      refine o_storeRA sz66 (.s .z) rfl rfl rfl rfl (by rw [bytesV_length, sec_len l i (by omega)]) (by decide) (by rw [flatV_length (secs_z (secs_all l m i (by omega))), secs_length]; omega) (allOne_bytes _) ?_
      refine triL_nil ⟨rfl, ?_⟩
      refine blockQ_normal ?_
      refine thenQ_normal ?_
      refine tri_slots [(0, _), (4, _), (26, _), (27, _)] (.cons rfl (.cons rfl (.cons rfl (.cons rfl (.nil _))))) ?_
      refine tri_region ?_
      refine o_addN rfl rfl rfl (by omega) ?_
      refine o_move rfl rfl ?_
      refine triL_nil ?_
      refine thenQ_normal ?_
      exact ⟨i + 1, (.cons rfl (.cons rfl (.cons rfl (.cons rfl (.nil _))))), (fun w1 hw1 => by
  have e2 := dk_set (g := j.1) (Ak := some ⟨j.2, 0, none⟩) (ck := m) (Ac := none) (cc := 0) (d := Dk.new m) (k := secs l m i) i (sec l i) (secs_all l m i (by omega)) (sec_len l i (by omega)) (by rw [secs_length]; omega)
  rw [secs_set l m i (by omega)] at e2
  rw [e2]
  exact hw1), by omega, by omega⟩
    · skip
      refine tri_exit ?_
      refine thenQ_exit ?_
      refine thenQ_exit ?_
      refine blockQ_here ?_
      refine thenQ_normal ?_
      refine tri_seq ?_
      refine tri_slots [(4, _)] (.cons rfl (.nil _)) ?_
      refine tri_region ?_
      refine o_move rfl rfl ?_
      refine o_assign rfl rfl ?_
      refine o_assign rfl rfl ?_
      refine triL_nil ?_
      refine thenQ_normal ?_
      refine tri_ret ?_
      refine end2 rfl rfl rfl ?_
      obtain rfl : i = m := by omega
      exact fin_turn j rfl trivial (fun w1 hw => hw)

theorem loadBad1 (A : Option Addr) (n c : Nat) (l : List UInt8) (m : Nat) (w : World) (hr : Rd w A (bytesV l)) (hn : l.length = n) (hc : n ≤ c) (hm : n ≤ 140737488351232) (hnm : n / 512 = m) (hb : n % 512 ≠ 0) (h1 : 1 ≤ m) (h2 : m ≤ 8192) : Calls Try.prog 19 #[.slice A n c] w (Pure w (.tuple #[.pointer none, .int .i64 5])) := by
  refine calls_tri (args := [.slice A n c]) (lent := []) (H := []) Try.func19 rfl Try.ntmps19 rfl (Sat.start _ _ _ _) ?_
  refine (show Tri _ [(0, _)] _ _ _ from ?_)
  refine tri_seq ?_
  refine tri_region ?_
  refine o_assign rfl rfl ?_
  refine o_assign rfl rfl ?_
  refine triL_nil ?_
  refine thenQ_normal ?_
  refine tri_seq ?_
  refine tri_region ?_
  refine o_move rfl rfl ?_
  refine o_lenS Try.underlying32 rfl rfl ?_
  refine o_quoN rfl rfl rfl (by omega) (by omega) (by omega) ?_
  rw [show (n : Int) / 512 = (m : Int) by omega]
  refine o_callM [] [] [] [] rfl rfl rfl rfl Try.call9 (fun c hc => by cases hc) (fun c hc => by cases hc) (fun w1 _ _ => newK m w1 h1 h2) (fun j _ => ?_)
  refine o_move rfl rfl ?_
  refine o_extract rfl rfl rfl ?_
  refine o_extract rfl rfl rfl ?_
  refine o_assign rfl rfl ?_
  refine o_assign rfl rfl ?_
  refine triL_nil ?_
  refine thenQ_normal ?_
  refine tri_seq ?_
  refine tri_seq ?_
  refine tri_slots [(5, _), (4, _), (0, _)] (.cons rfl (.cons rfl (.cons rfl (.nil _)))) ?_
  refine tri_region ?_
  refine o_move rfl rfl ?_
  refine o_neqI rfl rfl rfl ?_
  refine o_move rfl rfl ?_
  refine' triL_or [_, _, _, _] [(4, _), (0, _)] (dj := 16) (dr := 20) rfl rfl (fun g1 => ?_) ⟨_, rfl, rfl, rfl, (.cons rfl (.cons rfl (.nil _)))⟩ rfl ?_
  rotate_left
  · skip
    skip
    refine o_move rfl rfl ?_
    refine o_lenS Try.underlying32 rfl rfl ?_
    refine o_remN rfl rfl rfl (by omega) (by omega) ?_
    refine o_neqI rfl rfl rfl ?_
    exact triL_nil (Piece.mk rfl rfl (.cons rfl (.cons rfl (.nil _))) (fun _ h => h))
  refine triL_nil ?_
  refine thenQ_normal ?_
  refine tri_cond rfl (fun h0 => ?_) (fun h0 => ?_)
  · skip
    refine tri_seq ?_
    refine tri_region ?_
    refine o_assign rfl rfl ?_
    refine o_assign rfl rfl ?_
    refine triL_nil ?_
    refine thenQ_normal ?_
    refine tri_ret ?_
    refine thenQ_ret ?_
    refine end2 rfl rfl rfl ?_
    exact fun w1 hw1 => ⟨rfl, hw1.chg⟩
  · skip
    exact absurd h0 (by simp <;> omega)

theorem loadBad2 (A : Option Addr) (n c : Nat) (l : List UInt8) (w : World) (hr : Rd w A (bytesV l)) (hn : l.length = n) (hc : n ≤ c) (hm : n ≤ 140737488351232) (hb : n / 512 < 1 ∨ 8192 < n / 512) : Calls Try.prog 19 #[.slice A n c] w (Pure w (.tuple #[.pointer none, .int .i64 5])) := by
  refine calls_tri (args := [.slice A n c]) (lent := []) (H := []) Try.func19 rfl Try.ntmps19 rfl (Sat.start _ _ _ _) ?_
  refine (show Tri _ [(0, _)] _ _ _ from ?_)
  refine tri_seq ?_
  refine tri_region ?_
  refine o_assign rfl rfl ?_
  refine o_assign rfl rfl ?_
  refine triL_nil ?_
  refine thenQ_normal ?_
  refine tri_seq ?_
  refine tri_region ?_
  refine o_move rfl rfl ?_
  refine o_lenS Try.underlying32 rfl rfl ?_
  refine o_quoN rfl rfl rfl (by omega) (by omega) (by omega) ?_
  refine o_callP (first := []) (cap := []) rfl rfl rfl Try.call9 (fun w1 h1 => newBad ((n : Int) / 512) w1 (by omega)) ?_
  refine o_move rfl rfl ?_
  refine o_extract rfl rfl rfl ?_
  refine o_extract rfl rfl rfl ?_
  refine o_assign rfl rfl ?_
  refine o_assign rfl rfl ?_
  refine triL_nil ?_
  refine thenQ_normal ?_
  refine tri_seq ?_
  refine tri_seq ?_
  refine tri_slots [(5, _), (4, _), (0, _)] (.cons rfl (.cons rfl (.cons rfl (.nil _)))) ?_
  refine tri_region ?_
  refine o_move rfl rfl ?_
  refine o_neqI rfl rfl rfl ?_
  refine o_move rfl rfl ?_
  refine' triL_or [_, _, _, _] [(4, _), (0, _)] (dj := 16) (dr := 20) rfl rfl (fun g1 => ?_) ⟨_, rfl, rfl, rfl, (.cons rfl (.cons rfl (.nil _)))⟩ rfl ?_
  rotate_left
  · skip
    skip
    refine o_move rfl rfl ?_
    refine o_lenS Try.underlying32 rfl rfl ?_
    refine o_remN rfl rfl rfl (by omega) (by omega) ?_
    refine o_neqI rfl rfl rfl ?_
    exact triL_nil (Piece.mk rfl rfl (.cons rfl (.cons rfl (.nil _))) (fun _ h => h))
  refine triL_nil ?_
  refine thenQ_normal ?_
  refine tri_cond rfl (fun h0 => ?_) (fun h0 => ?_)
  · skip
    refine tri_seq ?_
    refine tri_region ?_
    refine o_assign rfl rfl ?_
    refine o_assign rfl rfl ?_
    refine triL_nil ?_
    refine thenQ_normal ?_
    refine tri_ret ?_
    refine thenQ_ret ?_
    refine end2 rfl rfl rfl ?_
    exact fun w1 hw1 => ⟨rfl, hw1.chg⟩
  · skip
    exact absurd h0 (by simp)

end Go.Proofs.Ytpnccaddbjbfhaa
