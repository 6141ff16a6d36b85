/- the document's lexer, walked -/
import Derived.Test.YtdcdpegomncomaaGreatDoorWalks7
namespace Go.Proofs.YtdcdpegomncomaaGreatDoor
open Go.WK Go.RowKit 

theorem fo35_2 : fieldB Tryz.prog 35 2 = some 2 := by kernel_rfl

theorem lexRef (s : List UInt8) (w : World) (hs : s.length ≤ 140737488351232) : Calls Tryz.prog 6 #[.string (B s)] w (NewRowF (fun v => .tuple #[v, .agg #[.int .i64 (fc (lexL s)).1, .int .i64 (fc (lexL s)).2]]) w 35 3 (tks (lexL s)).length (toksV (tks (lexL s)))) := by
  refine calls_tri (args := [.string (B s)]) (lent := []) (H := []) Tryz.func6 rfl Tryz.ntmps6 rfl (Sat.start _ _ _ _) ?_
  refine (show Tri _ [(0, _)] _ _ _ from ?_)
  refine tri_seq ?_
  refine tri_region ?_
  refine o_assign rfl rfl ?_
  refine o_alloc _ rfl zero29 rfl (fun b3 => ?_)
  refine triL_nil ?_
  refine thenQ_normal ?_
  refine tri_seq ?_
  refine tri_seq ?_
  refine tri_region ?_
  refine o_move rfl rfl ?_
  refine o_lenB Tryz.underlying9 rfl rfl ?_
  refine o_gtr rfl rfl rfl ?_
  refine triL_nil ?_
  refine thenQ_normal ?_
  refine tri_if rfl (fun h0 => ?_) (fun h0 => ?_)
  · skip
    refine tri_seq ?_
    refine tri_slots [(3, _)] (.cons rfl (.nil _)) ?_
    refine tri_region ?_
    refine o_build (built29_0 _) rfl rfl ?_
    refine o_assign rfl rfl ?_
    refine o_store sz29 (by first | exact Nth.z | exact .s .z | exact .s (.s .z) | exact .s (.s (.s .z)) | exact .s (.s (.s (.s .z)))) rfl rfl rfl rfl rfl (Nat.le_of_ble_eq_true rfl) rfl ?_
    refine triL_nil ?_
    refine thenQ_normal ?_
    refine tri_ret ?_
    refine thenQ_ret ?_
    refine endTC rfl agg29 sz29 (by first | exact Nth.z | exact .s .z | exact .s (.s .z) | exact .s (.s (.s .z)) | exact .s (.s (.s (.s .z)))) rfl rfl rfl ?_
    have e := lex_long (s := s) (by omega)
    rw [e]
    exact new_none (fun v => .tuple #[v, .agg #[.int .i64 3, .int .i64 0]])
  · skip
    refine tri_skip ?_
    refine thenQ_normal ?_
    refine tri_seq ?_
    refine tri_slots [(3, _), (0, _)] (.cons rfl (.cons rfl (.nil _))) ?_
    refine tri_region ?_
    refine o_assign rfl rfl ?_
    refine triL_nil ?_
    refine thenQ_normal ?_
    refine tri_seq ?_
    refine tri_region ?_
    refine o_move rfl rfl ?_
    refine o_callP (v := .int .i64 ((gap s : Nat) : Int)) (first := []) (cap := []) rfl rfl rfl Tryz.call20 (fun w1 h1 => gapR s w1 (by omega)) ?_
    refine o_assign rfl rfl ?_
    refine triL_nil ?_
    refine thenQ_normal ?_
    refine tri_seq ?_
    refine tri_block ?_
    refine tri_loop (ι := List Tok × Nat × Option Addr × Nat) (F := fun q => [(0, .string (B s)), (3, .pointer (some ⟨b3, 0, none⟩)), (4, .slice q.2.2.1 q.1.length q.2.2.2), (5, .int .i64 (q.2.1 : Int))]) (HH := fun q => [row (.slice q.2.2.1 q.1.length q.2.2.2) 35 3 q.1.length (toksV q.1), box b3 29 [.int .i64 0, .int .i64 0]]) (Pu := fun q => lexInvG s q.1 q.2.1) (μ := fun q => s.length - q.2.1) (([], gap s, none, 0)) (.cons rfl (.cons rfl (.cons rfl (.cons rfl (.nil _))))) (fun _ h => h.nilRow _ _) (⟨0, lexInv_zero (by omega), by simp⟩) (fun q hi => ?_)
    have hi1 := lexInvG_le hi
    obtain ⟨a, ha1, ha2⟩ := hi
    refine tri_seq ?_
    refine tri_seq ?_
    refine tri_region ?_
    refine o_move rfl rfl ?_
    refine o_move rfl rfl ?_
    refine o_lenB Tryz.underlying9 rfl rfl ?_
    refine o_lss rfl rfl rfl ?_
    refine triL_nil ?_
    refine thenQ_normal ?_
    refine tri_if rfl (fun h1 => ?_) (fun h1 => ?_)
    · skip
      refine tri_skip ?_
      refine thenQ_normal ?_
      refine tri_block ?_
      refine tri_seq ?_
      refine tri_slots [(0, _), (3, _), (4, _), (5, _)] (.cons rfl (.cons rfl (.cons rfl (.cons rfl (.nil _))))) ?_
      refine tri_region ?_
      refine o_move rfl rfl ?_
      refine o_move rfl rfl ?_
      refine o_sliceBl Tryz.underlying9 rfl rfl rfl (by omega) (by omega) ?_
      refine o_callP (first := []) (cap := []) rfl rfl rfl Tryz.call21 (fun w1 h1 => oneR (s.drop q.2.1) w1 (by rw [List.length_drop]; omega) (by rw [List.length_drop]; omega)) ?_
      refine o_move rfl rfl ?_
      refine o_extract rfl rfl rfl ?_
      refine o_extract rfl rfl rfl ?_
      refine o_extract rfl rfl rfl ?_
      refine o_alloc (Tok.cs Tok.zero) rfl zero35 rfl (fun b6 => ?_)
      refine o_storeBTk sz35 (by first | exact Nth.z | exact .s .z | exact .s (.s .z) | exact .s (.s (.s .z)) | exact .s (.s (.s (.s .z)))) rfl rfl rfl ?_
      refine o_assign rfl rfl ?_
      refine o_assign rfl rfl ?_
      refine triL_nil ?_
      refine thenQ_normal ?_
      refine tri_seq ?_
      refine tri_seq ?_
      refine tri_slots [(8, _), (7, _), (6, _), (0, _), (3, _), (4, _), (5, _)] (.cons rfl (.cons rfl (.cons rfl (.cons rfl (.cons rfl (.cons rfl (.cons rfl (.nil _)))))))) ?_
      refine tri_region ?_
      refine o_move rfl rfl ?_
      refine o_neqI rfl rfl rfl ?_
      refine triL_nil ?_
      refine thenQ_normal ?_
      refine tri_if rfl (fun h2 => ?_) (fun h2 => ?_)
      · skip
        have hbad := lexInv_bad ha1 ha2 (by omega) h2
        refine tri_seq ?_
        refine tri_slots [(8, _), (3, _), (5, _)] (.cons rfl (.cons rfl (.cons rfl (.nil _)))) ?_
        refine tri_region ?_
        refine o_move rfl rfl ?_
        refine o_move rfl rfl ?_
        refine o_build (built29_0_1 _ _) rfl rfl ?_
        refine o_assign rfl rfl ?_
        refine o_store sz29 (by first | exact Nth.z | exact .s .z | exact .s (.s .z) | exact .s (.s (.s .z)) | exact .s (.s (.s (.s .z)))) rfl rfl rfl rfl rfl (Nat.le_of_ble_eq_true rfl) rfl ?_
        refine triL_nil ?_
        refine thenQ_normal ?_
        refine tri_ret ?_
        refine thenQ_ret ?_
        refine blockQ_ret ?_
        refine thenQ_ret ?_
        refine blockQ_ret ?_
        refine thenQ_ret ?_
        refine endTC rfl agg29 sz29 (by first | exact Nth.z | exact .s .z | exact .s (.s .z) | exact .s (.s (.s .z)) | exact .s (.s (.s (.s .z)))) rfl rfl rfl ?_
        rw [hbad]
        exact new_none (fun v => .tuple #[v, .agg #[.int .i64 (one (s.drop q.2.1)).e, .int .i64 (q.2.1 : Int)]])
      · skip
        have h2 : (one (s.drop q.2.1)).e = 0 := Decidable.not_not.1 h2
        have hst := lexInv_step ha1 ha2 (by omega) h2
        refine tri_skip ?_
        refine thenQ_normal ?_
        refine tri_seq ?_
        refine tri_region ?_
        refine o_move rfl rfl ?_
        refine o_field fo35_2 rfl rfl ?_
        refine o_store sz3 (by first | exact Nth.z | exact .s .z | exact .s (.s .z) | exact .s (.s (.s .z)) | exact .s (.s (.s (.s .z)))) rfl rfl rfl rfl rfl (Nat.le_of_ble_eq_true rfl) rfl ?_
        refine triL_nil ?_
        refine thenQ_normal ?_
        refine tri_seq ?_
        refine tri_slots [(7, _), (6, _), (0, _), (3, _), (4, _), (5, _)] (.cons rfl (.cons rfl (.cons rfl (.cons rfl (.cons rfl (.cons rfl (.nil _))))))) ?_
        refine tri_region ?_
        refine o_move rfl rfl ?_
        refine o_loadBTk (v := ⟨(one (s.drop q.2.1)).k, (one (s.drop q.2.1)).t, (q.2.1 : Int)⟩) agg35 sz35 .z rfl rfl ?_
        refine o_lit1 (vs := toksV [⟨(one (s.drop q.2.1)).k, (one (s.drop q.2.1)).t, (q.2.1 : Int)⟩]) Tryz.underlying22 zs35 rfl rfl rfl rfl rfl (by decide) (by decide) (fun b36 => ?_)
        refine o_append Tryz.underlying22 zsb35 rfl (by decide) (by first | exact Nth.z | exact .s .z | exact .s (.s .z) | exact .s (.s (.s .z)) | exact .s (.s (.s (.s .z)))) rfl rfl rfl (news := toksV [⟨(one (s.drop q.2.1)).k, (one (s.drop q.2.1)).t, (q.2.1 : Int)⟩]) (RdS.row .z) rfl (toksV_one _) (by unfold maxLen; omega) (by omega) (fun A37 c37 => ?_)
        refine o_assign rfl rfl ?_
        refine triL_nil ?_
        refine thenQ_normal ?_
        refine tri_seq ?_
        refine tri_slots [(4, _), (7, _), (0, _), (3, _), (5, _)] (.cons rfl (.cons rfl (.cons rfl (.cons rfl (.cons rfl (.nil _)))))) ?_
        refine tri_region ?_
        refine o_move rfl rfl ?_
        refine o_move rfl rfl ?_
        refine o_addN rfl rfl rfl (by omega) ?_
        refine o_assign rfl rfl ?_
        refine triL_nil ?_
        refine thenQ_normal ?_
        refine tri_slots [(5, _), (4, _), (0, _), (3, _)] (.cons rfl (.cons rfl (.cons rfl (.cons rfl (.nil _))))) ?_
        have hg := gap_in (s := s) (a := q.2.1 + (one (s.drop q.2.1)).n) hst.2.1
        refine tri_region ?_
        refine o_move rfl rfl ?_
        refine o_move rfl rfl ?_
        refine o_move rfl rfl ?_
        refine o_sliceBl Tryz.underlying9 rfl rfl rfl (by omega) (by omega) ?_
        refine o_callP (v := .int .i64 ((gap (s.drop (q.2.1 + (one (s.drop q.2.1)).n)) : Nat) : Int)) (first := []) (cap := []) rfl rfl rfl Tryz.call20 (fun w1 h1 => gapR (s.drop (q.2.1 + (one (s.drop q.2.1)).n)) w1 (by rw [List.length_drop]; omega)) ?_
        refine o_addN rfl rfl rfl (by omega) ?_
        refine o_assign rfl rfl ?_
        refine triL_nil ?_
        refine blockQ_normal ?_
        refine thenQ_normal ?_
        exact ⟨(q.1 ++ [⟨(one (s.drop q.2.1)).k, (one (s.drop q.2.1)).t, (q.2.1 : Int)⟩], q.2.1 + (one (s.drop q.2.1)).n + gap (s.drop (q.2.1 + (one (s.drop q.2.1)).n)), A37, c37), (.cons rfl (.cons rfl (.cons (congrArg (fun k : Nat => some (Value.slice A37 k c37)) (by simp)) (.cons rfl (.nil _))))), (fun w1 hw1 => by simp only [List.length_append, toksV_append]; exact hw1.tail.tail), ⟨_, hst.2.2, rfl⟩, (by have := hst.1; simp only; omega)⟩
    · skip
      refine tri_exit ?_
      refine thenQ_exit ?_
      refine thenQ_exit ?_
      refine blockQ_here ?_
      refine thenQ_normal ?_
      refine tri_seq ?_
      refine tri_slots [(3, _), (4, _), (5, _)] (.cons rfl (.cons rfl (.cons rfl (.nil _)))) ?_
      refine tri_region ?_
      refine o_move rfl rfl ?_
      refine o_move rfl rfl ?_
      refine o_build (bval35_0_2 _ _) rfl rfl ?_
      refine o_lit1 (vs := toksV [⟨5, [], (q.2.1 : Int)⟩]) Tryz.underlying22 zs35 rfl rfl rfl rfl rfl (by decide) (by decide) (fun b50 => ?_)
      refine o_append Tryz.underlying22 zsb35 rfl (by decide) (by first | exact Nth.z | exact .s .z | exact .s (.s .z) | exact .s (.s (.s .z)) | exact .s (.s (.s (.s .z)))) rfl rfl rfl (news := toksV [⟨5, [], (q.2.1 : Int)⟩]) (RdS.row .z) rfl (toksV_one _) (by unfold maxLen; omega) (by omega) (fun A51 c51 => ?_)
      refine o_build built29 rfl rfl ?_
      refine o_assign rfl rfl ?_
      refine o_store sz29 (by first | exact Nth.z | exact .s .z | exact .s (.s .z) | exact .s (.s (.s .z)) | exact .s (.s (.s (.s .z)))) rfl rfl rfl rfl rfl (Nat.le_of_ble_eq_true rfl) rfl ?_
      refine triL_nil ?_
      refine thenQ_normal ?_
      refine tri_ret ?_
      refine endTC rfl agg29 sz29 (by first | exact Nth.z | exact .s .z | exact .s (.s .z) | exact .s (.s (.s .z)) | exact .s (.s (.s (.s .z)))) rfl rfl rfl ?_
      have hpe : s.length = q.2.1 := by omega
      have e := lexInv_end ha1 (by omega)
      rw [hpe] at e
      rw [e]
      simp only [tks, List.length_append, List.length_singleton, toksV_append, fc]
      exact fin_row (fun v => .tuple #[v, .agg #[.int .i64 0, .int .i64 0]]) (.s .z)

end Go.Proofs.YtdcdpegomncomaaGreatDoor
