/- the document's small functions, walked -/
import Derived.Test.YtdcdpegomncomaaGreatDoorWalks5
namespace Go.Proofs.YtdcdpegomncomaaGreatDoor
open Go.WK Go.RowKit 



theorem smallR (s : List UInt8) (w : World) (hs : s.length ≤ 140737488351232) : Calls Tryz.prog 36 #[.string (B s)] w (Pure w (.string (B (small s)))) := by
  refine calls_tri (args := [.string (B s)]) (lent := []) (H := []) Tryz.func36 rfl Tryz.ntmps36 rfl (Sat.start _ _ _ _) ?_
  refine (show Tri _ [(0, _)] _ _ _ from ?_)
  refine tri_seq ?_
  refine tri_region ?_
  refine o_assign rfl rfl ?_
  refine triL_nil ?_
  refine thenQ_normal ?_
  refine tri_seq ?_
  refine tri_region ?_
  refine o_assign rfl rfl ?_
  refine triL_nil ?_
  refine thenQ_normal ?_
  refine tri_seq ?_
  refine tri_seq ?_
  refine tri_region ?_
  refine o_assign rfl rfl ?_
  refine triL_nil ?_
  refine thenQ_normal ?_
  refine tri_block ?_
  refine tri_loop (ι := Nat × Option Addr × Nat) (F := fun q => [(0, .string (B s)), (3, .slice q.2.1 q.1 q.2.2), (4, .int .i64 (q.1 : Int))]) (HH := fun q => [row (.slice q.2.1 q.1 q.2.2) 5 1 q.1 (bytesV (small (s.take q.1)))]) (Pu := fun q => q.1 ≤ s.length) (μ := fun q => s.length - q.1) ((0, none, 0)) (.cons rfl (.cons rfl (.cons rfl (.nil _)))) (fun _ h => h.nilRow _ _) (Nat.zero_le _) (fun q hi => ?_)
  refine tri_seq ?_
  refine tri_seq ?_
  refine tri_region ?_
  refine o_move rfl rfl ?_
  refine o_move rfl rfl ?_
  refine o_lenB Tryz.underlying9 rfl rfl ?_
  refine o_lss rfl rfl rfl ?_
  refine triL_nil ?_
  refine thenQ_normal ?_
  refine tri_if rfl (fun h0 => ?_) (fun h0 => ?_)
  · skip
    refine tri_skip ?_
    refine thenQ_normal ?_
    refine tri_seq ?_
    refine tri_block ?_
    refine tri_seq ?_
    refine tri_slots [(0, _), (3, _), (4, _)] (.cons rfl (.cons rfl (.cons rfl (.nil _)))) ?_
    refine tri_region ?_
    refine o_move rfl rfl ?_
    refine o_move rfl rfl ?_
    refine o_idxB Tryz.underlying9 rfl rfl rfl (by omega) (by omega) ?_
    refine o_assign rfl rfl ?_
    refine triL_nil ?_
    refine thenQ_normal ?_
    refine tri_join (ι := Unit) (fun u => [(0, .string (B s)), (3, .slice q.2.1 q.1 q.2.2), (4, .int .i64 (q.1 : Int)), (5, byteV (low (s.getD q.1 0)))]) (fun u => [row (.slice q.2.1 q.1 q.2.2) 5 1 q.1 (bytesV (small (s.take q.1)))]) (fun u => True) ?_ (fun u hj => ?_)
    · skip
      refine tri_seq ?_
      refine tri_region ?_
      refine o_move rfl rfl ?_
      refine o_geq rfl rfl rfl ?_
      refine o_move rfl rfl ?_
      refine' triL_and [_, _] [(5, _), (0, _), (3, _), (4, _)] (dj := 17) (dr := 19) rfl rfl (fun g1 => ?_) ⟨_, rfl, rfl, rfl, (.cons rfl (.cons rfl (.cons rfl (.cons rfl (.nil _)))))⟩ rfl ?_
      rotate_left
      · skip
        refine o_move rfl rfl ?_
        refine o_leq rfl rfl rfl ?_
        exact triL_nil (Piece.mk rfl rfl (.cons rfl (.cons rfl (.cons rfl (.cons rfl (.nil _))))) (fun _ h => h))
      refine triL_nil ?_
      refine thenQ_normal ?_
      refine tri_cond rfl (fun h1 => ?_) (fun h1 => ?_)
      · skip
        have h1 : 65 ≤ (s.getD q.1 0).toNat ∧ (s.getD q.1 0).toNat ≤ 90 := by simp only [Bool.and_eq_true, decide_eq_true_eq, Int.toNat_natCast] at h1; have h2 := h1.1; have h3 := h1.2; constructor <;> omega
        refine tri_region ?_
        refine o_move rfl rfl ?_
        refine o_add rfl rfl rfl ?_
        refine o_assign rfl rfl ?_
        refine triL_nil ?_
        refine thenQ_normal ?_
        exact ⟨(), (.cons rfl (.cons rfl (.cons rfl (.cons (congrArg some (low_up h1)) (.nil _))))), fun _ h => h, trivial⟩
      · skip
        have h1 : ¬ (65 ≤ (s.getD q.1 0).toNat ∧ (s.getD q.1 0).toNat ≤ 90) := fun e => Bool.eq_false_iff.1 h1 (by simp only [Bool.and_eq_true, decide_eq_true_eq, Int.toNat_natCast]; have h2 := e.1; have h3 := e.2; constructor <;> omega)
        refine tri_skip ?_
        refine thenQ_normal ?_
        exact ⟨(), (.cons rfl (.cons rfl (.cons rfl (.cons (by rw [low_id h1]; rfl) (.nil _))))), fun _ h => h, trivial⟩
    refine tri_region ?_
    refine o_move rfl rfl ?_
    refine o_move rfl rfl ?_
    refine o_lit1 (vs := bytesV [_]) Tryz.underlying57 zs5 rfl rfl rfl rfl rfl (by decide) (by decide) (fun b25 => ?_)
    refine o_append Tryz.underlying57 zsb5 rfl (by decide) (by first | exact Nth.z | exact .s .z | exact .s (.s .z) | exact .s (.s (.s .z)) | exact .s (.s (.s (.s .z)))) rfl rfl rfl (news := bytesV [_]) (RdS.row .z) rfl (bytesV_one _) (by unfold maxLen; omega) (by omega) (fun A26 c26 => ?_)
    refine o_assign rfl rfl ?_
    refine triL_nil ?_
    refine blockQ_normal ?_
    refine thenQ_normal ?_
    refine tri_slots [(3, _), (0, _), (4, _)] (.cons rfl (.cons rfl (.cons rfl (.nil _)))) ?_
    refine tri_region ?_
    refine o_move rfl rfl ?_
    refine o_addN rfl rfl rfl (by omega) ?_
    refine o_assign rfl rfl ?_
    refine triL_nil ?_
    refine thenQ_normal ?_
    exact ⟨(q.1 + 1, A26, c26), (.cons rfl (.cons rfl (.cons rfl (.nil _)))), (fun w1 hw1 => by simp only [small_snoc s q.1 (by omega), bytesV_append]; exact hw1.tail), by simp only; omega, (by simp only; omega)⟩
  · skip
    refine tri_exit ?_
    refine thenQ_exit ?_
    refine thenQ_exit ?_
    refine blockQ_here ?_
    refine thenQ_normal ?_
    refine tri_seq ?_
    refine tri_slots [(3, _)] (.cons rfl (.nil _)) ?_
    refine tri_region ?_
    refine o_move rfl rfl ?_
    refine o_toText Tryz.underlying57 Tryz.underlying5 Tryz.underlying9 rfl rfl (RdS.row .z) (by rw [small_len, List.length_take]; omega) ?_
    refine o_assign rfl rfl ?_
    refine triL_nil ?_
    refine thenQ_normal ?_
    refine tri_ret ?_
    refine end1 rfl rfl ?_
    have e : s.take q.1 = s := List.take_of_length_le (by omega)
    rw [e]
    exact fin_pure

theorem mostR (d : List UInt8) (w : World) (hs : d.length ≤ 140737488355328) : Calls Tryz.prog 37 #[.string (B d)] w (Pure w (.bool (most d))) := by
  refine calls_tri (args := [.string (B d)]) (lent := []) (H := []) Tryz.func37 rfl Tryz.ntmps37 rfl (Sat.start _ _ _ _) ?_
  refine (show Tri _ [(0, _)] _ _ _ from ?_)
  refine tri_seq ?_
  refine tri_region ?_
  refine o_assign rfl rfl ?_
  refine triL_nil ?_
  refine thenQ_normal ?_
  refine tri_seq ?_
  refine tri_region ?_
  refine o_assign rfl rfl ?_
  refine triL_nil ?_
  refine thenQ_normal ?_
  refine tri_seq ?_
  refine tri_region ?_
  refine o_move rfl rfl ?_
  refine o_lenB Tryz.underlying9 rfl rfl ?_
  refine o_move rfl rfl ?_
  refine o_lenB Tryz.underlying9 rfl rfl ?_
  refine o_lss rfl rfl rfl ?_
  refine o_move rfl rfl ?_
  refine' triL_or [_, _, _, _, _, _, _, _, _, _] [(2, _)] (dj := 9) (dr := 19) rfl rfl (fun g1 => ?_) ⟨_, rfl, rfl, rfl, (.cons rfl (.nil _))⟩ rfl ?_
  rotate_left
  · skip
    refine o_move rfl rfl ?_
    refine o_lenB Tryz.underlying9 rfl rfl ?_
    refine o_move rfl rfl ?_
    refine o_lenB Tryz.underlying9 rfl rfl ?_
    refine o_eqlI rfl rfl rfl ?_
    refine o_move rfl rfl ?_
    refine' triL_and [_, _, _] [(9, _), (2, _)] (dj := 15) (dr := 18) rfl rfl (fun g2 => ?_) ⟨_, rfl, rfl, rfl, (.cons rfl (.cons rfl (.nil _)))⟩ rfl ?_
    rotate_left
    · skip
      refine o_move rfl rfl ?_
      refine o_move rfl rfl ?_
      refine o_leqT rfl rfl rfl ?_
      exact triL_nil (Piece.mk rfl rfl (.cons rfl (.cons rfl (.nil _))) (fun _ h => h))
    exact triL_nil (Piece.mk rfl rfl (.cons rfl (.nil _)) (fun _ h => h))
  refine o_assign rfl rfl ?_
  refine triL_nil ?_
  refine thenQ_normal ?_
  refine tri_ret ?_
  refine end1 rfl rfl ?_
  exact fun w1 hw1 => ⟨congrArg (fun b => Ending.returned (.bool b)) (by unfold most; congr 1; exact decide_eq_decide.2 (by simp; omega); congr 1; exact decide_eq_decide.2 (by simp; omega)), hw1.chg⟩

theorem textR (s : List UInt8) (w : World) (hs : s.length ≤ 140737488355328) (h1 : 1 ≤ s.length) : Calls Tryz.prog 38 #[.string (B s)] w (Pure w (.tuple #[.string (B (txtR s).1), .int .i64 ((txtR s).2 : Int)])) := by
  refine calls_tri (args := [.string (B s)]) (lent := []) (H := []) Tryz.func38 rfl Tryz.ntmps38 rfl (Sat.start _ _ _ _) ?_
  refine (show Tri _ [(0, _)] _ _ _ from ?_)
  refine tri_seq ?_
  refine tri_region ?_
  refine o_assign rfl rfl ?_
  refine o_assign rfl rfl ?_
  refine triL_nil ?_
  refine thenQ_normal ?_
  refine tri_seq ?_
  refine tri_region ?_
  refine o_assign rfl rfl ?_
  refine triL_nil ?_
  refine thenQ_normal ?_
  refine tri_seq ?_
  refine tri_seq ?_
  refine tri_region ?_
  refine o_assign rfl rfl ?_
  refine triL_nil ?_
  refine thenQ_normal ?_
  refine tri_block ?_
  refine tri_loop (ι := List UInt8 × Nat × Option Addr × Nat) (F := fun q => [(0, .string (B s)), (4, .slice q.2.2.1 q.1.length q.2.2.2), (5, .int .i64 (q.2.1 : Int))]) (HH := fun q => [row (.slice q.2.2.1 q.1.length q.2.2.2) 5 1 q.1.length (bytesV q.1)]) (Pu := fun q => quoInv s q.1 q.2.1) (μ := fun q => s.length - q.2.1) (([], 1, none, 0)) (.cons rfl (.cons rfl (.cons rfl (.nil _)))) (fun _ h => h.nilRow _ _) (quoInv_zero h1) (fun q hi => ?_)
  have hi2 := hi.2.1
  have hi3 := hi.2.2.1
  refine tri_seq ?_
  refine tri_seq ?_
  refine tri_region ?_
  refine o_move rfl rfl ?_
  refine o_move rfl rfl ?_
  refine o_lenB Tryz.underlying9 rfl rfl ?_
  refine o_lss rfl rfl rfl ?_
  refine triL_nil ?_
  refine thenQ_normal ?_
  refine tri_if rfl (fun h0 => ?_) (fun h0 => ?_)
  · skip
    refine tri_skip ?_
    refine thenQ_normal ?_
    refine tri_seq ?_
    refine tri_block ?_
    refine tri_seq ?_
    refine tri_seq ?_
    refine tri_slots [(0, _), (4, _), (5, _)] (.cons rfl (.cons rfl (.cons rfl (.nil _)))) ?_
    refine tri_region ?_
    refine o_move rfl rfl ?_
    refine o_move rfl rfl ?_
    refine o_idxB Tryz.underlying9 rfl rfl rfl (by omega) (by omega) ?_
    refine o_eqlU8 _ 39 rfl rfl rfl ?_
    refine triL_nil ?_
    refine thenQ_normal ?_
    refine tri_if rfl (fun g1 => ?_) (fun g1 => ?_)
    · skip
      have g1 : s.getD q.2.1 0 = 39 := g1
      refine tri_seq ?_
      refine tri_seq ?_
      refine tri_slots [(0, _), (4, _), (5, _)] (.cons rfl (.cons rfl (.cons rfl (.nil _)))) ?_
      refine tri_region ?_
      refine o_move rfl rfl ?_
      refine o_addN rfl rfl rfl (by omega) ?_
      refine o_move rfl rfl ?_
      refine o_lenB Tryz.underlying9 rfl rfl ?_
      refine o_geq rfl rfl rfl ?_
      refine o_move rfl rfl ?_
      refine' triL_or [_, _, _, _, _] [(0, _), (4, _), (5, _)] (dj := 21) (dr := 26) rfl rfl (fun g1 => ?_) ⟨_, rfl, rfl, rfl, (.cons rfl (.cons rfl (.cons rfl (.nil _))))⟩ rfl ?_
      rotate_left
      · skip
        have g1 := of_decide_eq_false g1
        refine o_move rfl rfl ?_
        refine o_move rfl rfl ?_
        refine o_addN rfl rfl rfl (by omega) ?_
        refine o_idxB Tryz.underlying9 rfl rfl rfl (by omega) (by omega) ?_
        refine o_neqU8 _ 39 rfl rfl rfl ?_
        exact triL_nil (Piece.mk rfl rfl (.cons rfl (.cons rfl (.cons rfl (.nil _)))) (fun _ h => h))
      refine triL_nil ?_
      refine thenQ_normal ?_
      refine tri_cond rfl (fun g2 => ?_) (fun g2 => ?_)
      · skip
        have g2 : ¬ (q.2.1 + 1 < s.length ∧ s.getD (q.2.1 + 1) 0 = 39) := fun e => by
          simp only [Bool.or_eq_true, decide_eq_true_eq] at g2
          rcases g2 with g2 | g2
          · have := e.1; omega
          · exact g2 e.2
        have eq := quoInv_some hi (by omega) g1 g2
        refine tri_seq ?_
        refine tri_region ?_
        refine o_move rfl rfl ?_
        refine o_toText Tryz.underlying57 Tryz.underlying5 Tryz.underlying9 rfl rfl (RdS.row .z) rfl ?_
        refine o_move rfl rfl ?_
        refine o_addN rfl rfl rfl (by omega) ?_
        refine o_assign rfl rfl ?_
        refine o_assign rfl rfl ?_
        refine triL_nil ?_
        refine thenQ_normal ?_
        refine tri_ret ?_
        refine thenQ_ret ?_
        refine thenQ_ret ?_
        refine blockQ_ret ?_
        refine thenQ_ret ?_
        refine thenQ_ret ?_
        refine blockQ_ret ?_
        refine thenQ_ret ?_
        refine end2 rfl rfl rfl ?_
        have e : txtR s = (q.1, q.2.1 + 1) := (by rw [txtR, eq])
        exact fun w1 hw1 => ⟨by rw [e]; rfl, hw1.chg⟩
      · skip
        have g2 : q.2.1 + 1 < s.length ∧ s.getD (q.2.1 + 1) 0 = 39 := by
          simp only [Bool.or_eq_false_iff, decide_eq_false_iff_not] at g2
          exact ⟨by have := g2.1; omega, Decidable.not_not.1 g2.2⟩
        refine tri_skip ?_
        refine thenQ_normal ?_
        refine tri_region ?_
        refine o_move rfl rfl ?_
        refine o_addN rfl rfl rfl (by omega) ?_
        refine o_assign rfl rfl ?_
        refine triL_nil ?_
        refine thenQ_normal ?_
        refine tri_region ?_
        refine o_move rfl rfl ?_
        refine o_move rfl rfl ?_
        refine o_move rfl rfl ?_
        refine o_idxB Tryz.underlying9 rfl rfl rfl (by omega) (by omega) ?_
        refine o_lit1 (vs := bytesV [_]) Tryz.underlying57 zs5 rfl rfl rfl rfl rfl (by decide) (by decide) (fun b38 => ?_)
        refine o_append Tryz.underlying57 zsb5 rfl (by decide) (by first | exact Nth.z | exact .s .z | exact .s (.s .z) | exact .s (.s (.s .z)) | exact .s (.s (.s (.s .z)))) rfl rfl rfl (news := bytesV [_]) (RdS.row .z) rfl (bytesV_one _) (by unfold maxLen; omega) (by omega) (fun A39 c39 => ?_)
        refine o_assign rfl rfl ?_
        refine triL_nil ?_
        refine blockQ_normal ?_
        refine thenQ_normal ?_
        refine tri_slots [(4, _), (5, _), (0, _)] (.cons rfl (.cons rfl (.cons rfl (.nil _)))) ?_
        refine tri_region ?_
        refine o_move rfl rfl ?_
        refine o_addN rfl rfl rfl (by omega) ?_
        refine o_assign rfl rfl ?_
        refine triL_nil ?_
        refine thenQ_normal ?_
        exact ⟨(q.1 ++ [s.getD (q.2.1 + 1) 0], q.2.1 + 2, A39, c39), (.cons rfl (.cons (congrArg (fun k : Nat => some (Value.slice A39 k c39)) (by simp)) (.cons rfl (.nil _)))), (fun w1 hw1 => by simp only [List.length_append, bytesV_append]; exact hw1.tail), quoInv_two hi g2.1 g1 g2.2, (by simp only; omega)⟩
    · skip
      have g1 : ¬ s.getD q.2.1 0 = 39 := g1
      refine tri_skip ?_
      refine thenQ_normal ?_
      refine tri_slots [(0, _), (4, _), (5, _)] (.cons rfl (.cons rfl (.cons rfl (.nil _)))) ?_
      refine tri_region ?_
      refine o_move rfl rfl ?_
      refine o_move rfl rfl ?_
      refine o_move rfl rfl ?_
      refine o_idxB Tryz.underlying9 rfl rfl rfl (by omega) (by omega) ?_
      refine o_lit1 (vs := bytesV [_]) Tryz.underlying57 zs5 rfl rfl rfl rfl rfl (by decide) (by decide) (fun b38 => ?_)
      refine o_append Tryz.underlying57 zsb5 rfl (by decide) (by first | exact Nth.z | exact .s .z | exact .s (.s .z) | exact .s (.s (.s .z)) | exact .s (.s (.s (.s .z)))) rfl rfl rfl (news := bytesV [_]) (RdS.row .z) rfl (bytesV_one _) (by unfold maxLen; omega) (by omega) (fun A39 c39 => ?_)
      refine o_assign rfl rfl ?_
      refine triL_nil ?_
      refine blockQ_normal ?_
      refine thenQ_normal ?_
      refine tri_slots [(4, _), (0, _), (5, _)] (.cons rfl (.cons rfl (.cons rfl (.nil _)))) ?_
      refine tri_region ?_
      refine o_move rfl rfl ?_
      refine o_addN rfl rfl rfl (by omega) ?_
      refine o_assign rfl rfl ?_
      refine triL_nil ?_
      refine thenQ_normal ?_
      exact ⟨(q.1 ++ [s.getD q.2.1 0], q.2.1 + 1, A39, c39), (.cons rfl (.cons (congrArg (fun k : Nat => some (Value.slice A39 k c39)) (by simp)) (.cons rfl (.nil _)))), (fun w1 hw1 => by simp only [List.length_append, bytesV_append]; exact hw1.tail), quoInv_one hi (by omega) g1, (by simp only; omega)⟩
  · skip
    refine tri_exit ?_
    refine thenQ_exit ?_
    refine thenQ_exit ?_
    refine blockQ_here ?_
    refine thenQ_normal ?_
    refine tri_seq ?_
    refine tri_slots [] (.nil _) ?_
    refine tri_region ?_
    refine o_assign rfl rfl ?_
    refine o_assign rfl rfl ?_
    refine triL_nil ?_
    refine thenQ_normal ?_
    refine tri_ret ?_
    refine end2 rfl rfl rfl ?_
    have e : txtR s = ([], 0) := (by rw [txtR, quoInv_none hi (by omega)])
    exact fun w1 hw1 => ⟨by rw [e]; rfl, hw1.chg⟩

theorem gapR (s : List UInt8) (w : World) (hs : s.length ≤ 140737488355328) : Calls Tryz.prog 20 #[.string (B s)] w (Pure w (.int .i64 ((gap s : Nat) : Int))) := by
  refine calls_tri (args := [.string (B s)]) (lent := []) (H := []) Tryz.func20 rfl Tryz.ntmps20 rfl (Sat.start _ _ _ _) ?_
  refine (show Tri _ [(0, _)] _ _ _ from ?_)
  refine tri_seq ?_
  refine tri_region ?_
  refine o_assign rfl rfl ?_
  refine triL_nil ?_
  refine thenQ_normal ?_
  refine tri_seq ?_
  refine tri_region ?_
  refine o_assign rfl rfl ?_
  refine triL_nil ?_
  refine thenQ_normal ?_
  refine tri_seq ?_
  refine tri_block ?_
  refine tri_loop (ι := Nat) (F := fun i => [(0, .string (B s)), (3, .int .i64 (i : Int))]) (HH := fun i => []) (Pu := fun i => i ≤ s.length ∧ gap s = i + gapM false (s.drop i)) (μ := fun i => s.length - i) (0) (.cons rfl (.cons rfl (.nil _))) (fun _ h => h) (⟨by omega, by simp⟩) (fun i hi => ?_)
  refine tri_seq ?_
  refine tri_seq ?_
  refine tri_region ?_
  refine o_move rfl rfl ?_
  refine o_move rfl rfl ?_
  refine o_lenB Tryz.underlying9 rfl rfl ?_
  refine o_lss rfl rfl rfl ?_
  refine triL_nil ?_
  refine thenQ_normal ?_
  refine tri_if rfl (fun h0 => ?_) (fun h0 => ?_)
  · skip
    refine tri_skip ?_
    refine thenQ_normal ?_
    refine tri_block ?_
    refine tri_seq ?_
    refine tri_seq ?_
    refine tri_slots [(0, _), (3, _)] (.cons rfl (.cons rfl (.nil _))) ?_
    refine tri_region ?_
    refine o_move rfl rfl ?_
    refine o_move rfl rfl ?_
    refine o_idxB Tryz.underlying9 rfl rfl rfl (by omega) (by omega) ?_
    refine o_eqlU8 _ 32 rfl rfl rfl ?_
    refine o_move rfl rfl ?_
    refine' triL_or [_, _, _, _] [(0, _), (3, _)] (dj := 12) (dr := 16) rfl rfl (fun g1 => ?_) ⟨_, rfl, rfl, rfl, (.cons rfl (.cons rfl (.nil _)))⟩ rfl ?_
    rotate_left
    · skip
      refine o_move rfl rfl ?_
      refine o_move rfl rfl ?_
      refine o_idxB Tryz.underlying9 rfl rfl rfl (by omega) (by omega) ?_
      refine o_eqlU8 _ 9 rfl rfl rfl ?_
      exact triL_nil (Piece.mk rfl rfl (.cons rfl (.cons rfl (.nil _))) (fun _ h => h))
    refine o_move rfl rfl ?_
    refine' triL_or [_, _, _, _] [(0, _), (3, _)] (dj := 18) (dr := 22) rfl rfl (fun g2 => ?_) ⟨_, rfl, rfl, rfl, (.cons rfl (.cons rfl (.nil _)))⟩ rfl ?_
    rotate_left
    · skip
      refine o_move rfl rfl ?_
      refine o_move rfl rfl ?_
      refine o_idxB Tryz.underlying9 rfl rfl rfl (by omega) (by omega) ?_
      refine o_eqlU8 _ 10 rfl rfl rfl ?_
      exact triL_nil (Piece.mk rfl rfl (.cons rfl (.cons rfl (.nil _))) (fun _ h => h))
    refine o_move rfl rfl ?_
    refine' triL_or [_, _, _, _] [(0, _), (3, _)] (dj := 24) (dr := 28) rfl rfl (fun g3 => ?_) ⟨_, rfl, rfl, rfl, (.cons rfl (.cons rfl (.nil _)))⟩ rfl ?_
    rotate_left
    · skip
      refine o_move rfl rfl ?_
      refine o_move rfl rfl ?_
      refine o_idxB Tryz.underlying9 rfl rfl rfl (by omega) (by omega) ?_
      refine o_eqlU8 _ 13 rfl rfl rfl ?_
      exact triL_nil (Piece.mk rfl rfl (.cons rfl (.cons rfl (.nil _))) (fun _ h => h))
    refine triL_nil ?_
    refine thenQ_normal ?_
    refine tri_cond rfl (fun hb => ?_) (fun hb => ?_)
    · skip
      have hb : isBl (s.getD i 0) = true := hb
      refine tri_seq ?_
      refine tri_region ?_
      refine o_move rfl rfl ?_
      refine o_addN rfl rfl rfl (by omega) ?_
      refine o_assign rfl rfl ?_
      refine triL_nil ?_
      refine thenQ_normal ?_
      refine tri_exit ?_
      refine thenQ_exit ?_
      refine blockQ_here ?_
      refine thenQ_normal ?_
      have e := gap_bl (i := i) (by omega) hb
      exact ⟨i + 1, (.cons rfl (.cons rfl (.nil _))), fun _ h => h, ⟨by omega, by omega⟩, by omega⟩
    · skip
      have hb : isBl (s.getD i 0) = false := hb
      refine tri_skip ?_
      refine thenQ_normal ?_
      refine tri_seq ?_
      refine tri_seq ?_
      refine tri_region ?_
      refine o_move rfl rfl ?_
      refine o_move rfl rfl ?_
      refine o_idxB Tryz.underlying9 rfl rfl rfl (by omega) (by omega) ?_
      refine o_neqU8 _ 45 rfl rfl rfl ?_
      refine o_move rfl rfl ?_
      refine' triL_or [_, _, _, _, _] [(0, _), (3, _)] (dj := 36) (dr := 41) rfl rfl (fun g4 => ?_) ⟨_, rfl, rfl, rfl, (.cons rfl (.cons rfl (.nil _)))⟩ rfl ?_
      rotate_left
      · skip
        refine o_move rfl rfl ?_
        refine o_addN rfl rfl rfl (by omega) ?_
        refine o_move rfl rfl ?_
        refine o_lenB Tryz.underlying9 rfl rfl ?_
        refine o_geq rfl rfl rfl ?_
        exact triL_nil (Piece.mk rfl rfl (.cons rfl (.cons rfl (.nil _))) (fun _ h => h))
      refine o_move rfl rfl ?_
      refine' triL_or [_, _, _, _, _] [(0, _), (3, _)] (dj := 43) (dr := 48) rfl rfl (fun G12 => ?_) ⟨_, rfl, rfl, rfl, (.cons rfl (.cons rfl (.nil _)))⟩ rfl ?_
      rotate_left
      · skip
        have g5 := (Bool.or_eq_false_iff.1 G12).2
        have g6 := of_decide_eq_false g5
        refine o_move rfl rfl ?_
        refine o_move rfl rfl ?_
        refine o_addN rfl rfl rfl (by omega) ?_
        refine o_idxB Tryz.underlying9 rfl rfl rfl (by omega) (by omega) ?_
        refine o_neqU8 _ 45 rfl rfl rfl ?_
        exact triL_nil (Piece.mk rfl rfl (.cons rfl (.cons rfl (.nil _))) (fun _ h => h))
      refine triL_nil ?_
      refine thenQ_normal ?_
      refine tri_cond rfl (fun hp => ?_) (fun hp => ?_)
      · skip
        have e := gap_no (s := s) (i := i) (by omega) hb (dash_no hp)
        refine tri_seq ?_
        refine tri_region ?_
        refine o_move rfl rfl ?_
        refine o_assign rfl rfl ?_
        refine triL_nil ?_
        refine thenQ_normal ?_
        refine tri_ret ?_
        refine thenQ_ret ?_
        refine blockQ_ret ?_
        refine thenQ_ret ?_
        refine blockQ_ret ?_
        refine thenQ_ret ?_
        refine end1 rfl rfl ?_
        exact fun w1 hw1 => ⟨congrArg (fun b => Ending.returned (.int .i64 b)) (by rw [hi.2, e]; rfl), hw1.chg⟩
      · skip
        have hp : s.getD i 0 = 45 ∧ i + 1 < s.length ∧ s.getD (i + 1) 0 = 45 := dash_yes hp
        refine tri_skip ?_
        refine thenQ_normal ?_
        refine tri_block ?_
        refine tri_loop (ι := Nat) (F := fun k => [(0, .string (B s)), (3, .int .i64 (k : Int))]) (HH := fun k => []) (Pu := fun k => i ≤ k ∧ k ≤ s.length ∧ gap s = k + gapM true (s.drop k)) (μ := fun k => s.length - k) (i) (.cons rfl (.cons rfl (.nil _))) (fun _ h => h) (⟨Nat.le_refl _, by omega, by rw [hi.2, gap_cmt (by omega) hp]⟩) (fun k hik => ?_)
        refine tri_seq ?_
        refine tri_seq ?_
        refine tri_region ?_
        refine o_move rfl rfl ?_
        refine o_move rfl rfl ?_
        refine o_lenB Tryz.underlying9 rfl rfl ?_
        refine o_lss rfl rfl rfl ?_
        refine o_move rfl rfl ?_
        refine' triL_and [_, _, _, _] [(0, _), (3, _)] (dj := 55) (dr := 59) rfl rfl (fun g5 => ?_) ⟨_, rfl, rfl, rfl, (.cons rfl (.cons rfl (.nil _)))⟩ rfl ?_
        rotate_left
        · skip
          have g5 := of_decide_eq_true g5
          refine o_move rfl rfl ?_
          refine o_move rfl rfl ?_
          refine o_idxB Tryz.underlying9 rfl rfl rfl (by omega) (by omega) ?_
          refine o_neqU8 _ 10 rfl rfl rfl ?_
          exact triL_nil (Piece.mk rfl rfl (.cons rfl (.cons rfl (.nil _))) (fun _ h => h))
        refine triL_nil ?_
        refine thenQ_normal ?_
        refine tri_cond rfl (fun hk => ?_) (fun hk => ?_)
        · skip
          have hk : k < s.length ∧ s.getD k 0 ≠ 10 := by simp only [Bool.and_eq_true, decide_eq_true_eq] at hk; exact ⟨by have := hk.1; omega, hk.2⟩
          refine tri_skip ?_
          refine thenQ_normal ?_
          refine tri_block ?_
          refine tri_region ?_
          refine o_move rfl rfl ?_
          refine o_addN rfl rfl rfl (by omega) ?_
          refine o_assign rfl rfl ?_
          refine triL_nil ?_
          refine blockQ_normal ?_
          refine thenQ_normal ?_
          have e := cmt_step (i := k) hk.1 hk.2
          exact ⟨k + 1, (.cons rfl (.cons rfl (.nil _))), fun _ h => h, ⟨by omega, by omega, by omega⟩, by omega⟩
        · skip
          have hk : ¬ (k < s.length ∧ s.getD k 0 ≠ 10) := fun e => Bool.eq_false_iff.1 hk (by simp only [Bool.and_eq_true, decide_eq_true_eq]; exact ⟨by have := e.1; omega, e.2⟩)
          have hki : i < k := by
            rcases Nat.lt_or_ge i k with h | h
            · exact h
            · have e : k = i := by omega
              exact absurd ⟨by omega, by rw [e, hp.1]; decide⟩ hk
          have hend : gapM true (s.drop k) = gapM false (s.drop k) := by
            rcases Nat.lt_or_ge k s.length with h | h
            · exact cmt_end h (Decidable.not_not.1 fun e => hk ⟨h, e⟩)
            · rw [List.drop_eq_nil_of_le h]; rfl
          refine tri_exit ?_
          refine thenQ_exit ?_
          refine thenQ_exit ?_
          refine blockQ_here ?_
          refine blockQ_normal ?_
          refine thenQ_normal ?_
          exact ⟨k, (.cons rfl (.cons rfl (.nil _))), fun _ h => h, ⟨by omega, by rw [hik.2.2, hend]⟩, (by omega)⟩
  · skip
    refine tri_exit ?_
    refine thenQ_exit ?_
    refine thenQ_exit ?_
    refine blockQ_here ?_
    refine thenQ_normal ?_
    refine tri_seq ?_
    refine tri_slots [(3, _)] (.cons rfl (.nil _)) ?_
    refine tri_region ?_
    refine o_move rfl rfl ?_
    refine o_assign rfl rfl ?_
    refine triL_nil ?_
    refine thenQ_normal ?_
    refine tri_ret ?_
    refine end1 rfl rfl ?_
    exact fun w1 hw1 => ⟨congrArg (fun b => Ending.returned (.int .i64 b)) (by rw [hi.2, List.drop_eq_nil_of_le (by omega)]; rfl), hw1.chg⟩

end Go.Proofs.YtdcdpegomncomaaGreatDoor
