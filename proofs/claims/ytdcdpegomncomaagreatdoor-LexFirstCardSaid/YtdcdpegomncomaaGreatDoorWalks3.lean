/- the lexer, walked -/
import Derived.Test.YtdcdpegomncomaaGreatDoorWalks2
import Derived.Test.YtdcdpegomncomaaGreatDoorLex5
namespace Go.Proofs.YtdcdpegomncomaaGreatDoor
open Go.WK Go.RowKit 

theorem zs35 : (Tryz.prog.info? 35).map (fun i => (i.zero, i.size)) = some (some (.agg #[.int .i64 0, .string .empty, .int .i64 0]), 3) := by kernel_rfl
theorem built29_0 (x0 : Int) : Tryz.prog.built 29 [(0, .int .i64 x0)] = some ([.int .i64 x0, .int .i64 0] : List Value).toArray := by kernel_rfl
theorem zero3 : (Tryz.prog.info? 3).map (·.zero) = some (some (.int .i64 0)) := by kernel_rfl
theorem sz3 : szB Tryz.prog 3 = some 1 := by kernel_rfl
theorem bval35_0_2 (x : Int) (z : Int) : Tryz.prog.built 35 [(0, .int .i64 x), (2, .int .i64 z)] = some (Tok.cs ⟨x, [], z⟩).toArray := by kernel_rfl
theorem zsb35 : (Tryz.prog.info? 35).map (fun i => (i.zero, i.size, i.bytes)) = some (some (.agg #[.int .i64 0, .string .empty, .int .i64 0]), 3, 32) := by kernel_rfl
theorem bval35_2 (z : Int) : Tryz.prog.built 35 [(2, .int .i64 z)] = some (Tok.cs ⟨0, [], z⟩).toArray := by kernel_rfl
theorem zero35 : (Tryz.prog.info? 35).map (·.zero) = some (some (.agg #[.int .i64 0, .string .empty, .int .i64 0])) := by kernel_rfl
theorem sz35 : szB Tryz.prog 35 = some 3 := by kernel_rfl
theorem fo35_0 : fieldB Tryz.prog 35 0 = some 0 := by kernel_rfl
theorem fo35_1 : fieldB Tryz.prog 35 1 = some 1 := by kernel_rfl
theorem sz9 : szB Tryz.prog 9 = some 1 := by kernel_rfl
theorem built29_0_1 (x0 : Int) (x1 : Int) : Tryz.prog.built 29 [(0, .int .i64 x0), (1, .int .i64 x1)] = some ([.int .i64 x0, .int .i64 x1] : List Value).toArray := by kernel_rfl
theorem agg35 : aggB Tryz.prog 35 = some true := by kernel_rfl

theorem lexK (s : List UInt8) (w : World) (hs : s.length ≤ 140737488355328) (hE : LE w) : Calls Tryz.prog 5 #[.string (B s)] w (NewRowF (fun v => .tuple #[v, errR 29 (lexL s)]) w 35 3 (tks (lexL s)).length (toksV (tks (lexL s)))) := by
  refine calls_tri (args := [.string (B s)]) (lent := []) (H := []) Tryz.func5 rfl Tryz.ntmps5 rfl (Sat.start _ _ _ _) ?_
  refine (show Tri _ [(0, _)] _ _ _ from ?_)
  refine tri_seq ?_
  refine tri_region ?_
  refine o_box _ rfl rfl rfl (fun b1 => ?_)
  refine o_assign rfl rfl ?_
  refine o_assign rfl rfl ?_
  refine triL_nil ?_
  refine thenQ_normal ?_
  refine tri_seq ?_
  refine tri_seq ?_
  refine tri_region ?_
  refine o_load agg9 (by first | exact Nth.z | exact .s .z | exact .s (.s .z) | exact .s (.s (.s .z)) | exact .s (.s (.s (.s .z))) | exact .s (.s (.s (.s (.s .z)))) | exact .s (.s (.s (.s (.s (.s .z))))) | exact .s (.s (.s (.s (.s (.s (.s .z))))))) rfl rfl rfl ?_
  refine o_lenB Tryz.underlying9 rfl rfl ?_
  refine o_gtr rfl rfl rfl ?_
  refine triL_nil ?_
  refine thenQ_normal ?_
  refine tri_if rfl (fun h0 => ?_) (fun h0 => ?_)
  · skip
    refine tri_seq ?_
    refine tri_slots [] (.nil _) ?_
    refine tri_region ?_
    refine o_build (built29_0 _) rfl rfl ?_
    refine o_iface Tryz.underlying29 rfl rfl rfl ?_
    refine o_assign rfl rfl ?_
    refine o_assign rfl rfl ?_
    refine triL_nil ?_
    refine thenQ_normal ?_
    refine tri_ret ?_
    refine thenQ_ret ?_
    refine end2 rfl rfl rfl ?_
    have e := lex_long (s := s) (by omega)
    rw [e]
    exact new_none (fun v => .tuple #[v, errR 29 (.error (3, 0))])
  · skip
    refine tri_skip ?_
    refine thenQ_normal ?_
    refine tri_seq ?_
    refine tri_slots [(1, _)] (.cons rfl (.nil _)) ?_
    refine tri_region ?_
    refine o_alloc _ rfl zero3 rfl (fun b4 => ?_)
    refine o_store sz3 (by first | exact Nth.z | exact .s .z | exact .s (.s .z) | exact .s (.s (.s .z)) | exact .s (.s (.s (.s .z))) | exact .s (.s (.s (.s (.s .z)))) | exact .s (.s (.s (.s (.s (.s .z))))) | exact .s (.s (.s (.s (.s (.s (.s .z))))))) rfl rfl rfl rfl rfl (Nat.le_of_ble_eq_true rfl) rfl ?_
    refine triL_nil ?_
    refine thenQ_normal ?_
    refine tri_seq ?_
    refine tri_region ?_
    refine o_makeFunc rfl rfl rfl ?_
    refine o_assign rfl rfl ?_
    refine triL_nil ?_
    refine thenQ_normal ?_
    refine tri_seq ?_
    refine tri_region ?_
    refine o_assign rfl rfl ?_
    refine triL_nil ?_
    refine thenQ_normal ?_
    refine tri_block ?_
    refine tri_loop (ι := List Tok × Nat × Option Addr × Nat) (F := fun q => [(1, .pointer (some ⟨b1, 0, none⟩)), (4, .pointer (some ⟨b4, 0, none⟩)), (5, .func (.func 10) #[] #[.pointer (some ⟨b4, 0, none⟩), .pointer (some ⟨b1, 0, none⟩)]), (6, .slice q.2.2.1 q.1.length q.2.2.2)]) (HH := fun q => [row (.slice q.2.2.1 q.1.length q.2.2.2) 35 3 q.1.length (toksV q.1), box b4 3 [.int .i64 (q.2.1 : Int)], box b1 9 [.string (B s)]]) (Pu := fun q => lexInv s q.1 q.2.1) (μ := fun q => s.length - q.2.1) (([], 0, none, 0)) (.cons rfl (.cons rfl (.cons rfl (.cons rfl (.nil _))))) (fun _ h => h.nilRow _ _) (lexInv_zero (by omega)) (fun q hi => ?_)
    have hi1 := hi.1
    have hi2 := hi.2.1
    refine tri_block ?_
    refine tri_seq ?_
    refine tri_region ?_
    refine o_load agg9 (by first | exact Nth.z | exact .s .z | exact .s (.s .z) | exact .s (.s (.s .z)) | exact .s (.s (.s (.s .z))) | exact .s (.s (.s (.s (.s .z)))) | exact .s (.s (.s (.s (.s (.s .z))))) | exact .s (.s (.s (.s (.s (.s (.s .z))))))) rfl rfl rfl ?_
    refine o_load agg3 (by first | exact Nth.z | exact .s .z | exact .s (.s .z) | exact .s (.s (.s .z)) | exact .s (.s (.s (.s .z))) | exact .s (.s (.s (.s (.s .z)))) | exact .s (.s (.s (.s (.s (.s .z))))) | exact .s (.s (.s (.s (.s (.s (.s .z))))))) rfl rfl rfl ?_
    refine o_callP (v := .int .i64 ((q.2.1 + gap (s.drop q.2.1) : Nat) : Int)) (first := []) (cap := []) rfl rfl rfl Tryz.call11 (fun w1 h1 => skipK s q.2.1 w1 (by omega) hi.1) ?_
    have hg := gap_in hi.1
    obtain ⟨p, hp⟩ : ∃ p, q.2.1 + gap (s.drop q.2.1) = p := ⟨_, rfl⟩
    rw [hp] at hg ⊢
    refine o_store sz3 (by first | exact Nth.z | exact .s .z | exact .s (.s .z) | exact .s (.s (.s .z)) | exact .s (.s (.s (.s .z))) | exact .s (.s (.s (.s (.s .z)))) | exact .s (.s (.s (.s (.s (.s .z))))) | exact .s (.s (.s (.s (.s (.s (.s .z))))))) rfl rfl rfl rfl rfl (Nat.le_of_ble_eq_true rfl) rfl ?_
    refine triL_nil ?_
    refine thenQ_normal ?_
    refine tri_seq ?_
    refine tri_seq ?_
    refine tri_region ?_
    refine o_load agg3 (by first | exact Nth.z | exact .s .z | exact .s (.s .z) | exact .s (.s (.s .z)) | exact .s (.s (.s (.s .z))) | exact .s (.s (.s (.s (.s .z)))) | exact .s (.s (.s (.s (.s (.s .z))))) | exact .s (.s (.s (.s (.s (.s (.s .z))))))) rfl rfl rfl ?_
    refine o_load agg9 (by first | exact Nth.z | exact .s .z | exact .s (.s .z) | exact .s (.s (.s .z)) | exact .s (.s (.s (.s .z))) | exact .s (.s (.s (.s (.s .z)))) | exact .s (.s (.s (.s (.s (.s .z))))) | exact .s (.s (.s (.s (.s (.s (.s .z))))))) rfl rfl rfl ?_
    refine o_lenB Tryz.underlying9 rfl rfl ?_
    refine o_eqlI rfl rfl rfl ?_
    refine triL_nil ?_
    refine thenQ_normal ?_
    refine tri_if rfl (fun h1 => ?_) (fun h1 => ?_)
    · skip
      refine tri_seq ?_
      refine tri_slots [(4, _), (6, _)] (.cons rfl (.cons rfl (.nil _))) ?_
      refine tri_region ?_
      refine o_move rfl rfl ?_
      refine o_load agg3 (by first | exact Nth.z | exact .s .z | exact .s (.s .z) | exact .s (.s (.s .z)) | exact .s (.s (.s (.s .z))) | exact .s (.s (.s (.s (.s .z)))) | exact .s (.s (.s (.s (.s (.s .z))))) | exact .s (.s (.s (.s (.s (.s (.s .z))))))) rfl rfl rfl ?_
      refine o_build (bval35_0_2 _ _) rfl rfl ?_
      refine o_lit1 (vs := toksV [⟨5, [], (p : Int)⟩]) Tryz.underlying22 zs35 rfl rfl rfl rfl rfl (by decide) (by decide) (fun b27 => ?_)
      refine o_append Tryz.underlying22 zsb35 rfl (by decide) (by first | exact Nth.z | exact .s .z | exact .s (.s .z) | exact .s (.s (.s .z)) | exact .s (.s (.s (.s .z))) | exact .s (.s (.s (.s (.s .z)))) | exact .s (.s (.s (.s (.s (.s .z))))) | exact .s (.s (.s (.s (.s (.s (.s .z))))))) rfl rfl rfl (news := toksV [⟨5, [], (p : Int)⟩]) (RdS.row .z) rfl (toksV_one _) (by unfold maxLen; omega) (by omega) (fun A28 c28 => ?_)
      refine o_assign rfl rfl ?_
      refine o_assign rfl rfl ?_
      refine triL_nil ?_
      refine thenQ_normal ?_
      refine tri_ret ?_
      refine thenQ_ret ?_
      refine blockQ_ret ?_
      refine thenQ_ret ?_
      refine blockQ_ret ?_
      refine end2 rfl rfl rfl ?_
      have e := lexInv_end hi (by omega)
      have hpe : s.length = p := by omega
      rw [hpe] at e
      rw [e]
      simp only [tks, List.length_append, List.length_singleton, toksV_append]
      exact fin_row (fun v => .tuple #[v, errR 29 (.ok (q.1 ++ [⟨5, [], (p : Int)⟩]))]) (.s .z)
    · skip
      have hpl : p < s.length := by omega
      have hr0 : (s.drop p).getD 0 0 = s.getD p 0 := by rw [getD_dropx]; rfl
      have hsg : sgnL (s.drop p) = sgn ((s.getD p 0).toNat : Int) ((s.getD (p + 1) 0).toNat : Int) := by rw [sgnL, hr0, getD_dropx]
      have hne : (s.drop p) ≠ [] := fun e => by have := congrArg List.length e; rw [List.length_drop] at this; simp at this; omega
      refine tri_skip ?_
      refine thenQ_normal ?_
      refine tri_seq ?_
      refine tri_slots [(1, _), (4, _), (5, _), (6, _)] (.cons rfl (.cons rfl (.cons rfl (.cons rfl (.nil _))))) ?_
      refine tri_region ?_
      refine o_load agg3 (by first | exact Nth.z | exact .s .z | exact .s (.s .z) | exact .s (.s (.s .z)) | exact .s (.s (.s (.s .z))) | exact .s (.s (.s (.s (.s .z)))) | exact .s (.s (.s (.s (.s (.s .z))))) | exact .s (.s (.s (.s (.s (.s (.s .z))))))) rfl rfl rfl ?_
      refine o_build (bval35_2 _) rfl rfl ?_
      refine o_alloc (Tok.cs Tok.zero) rfl zero35 rfl (fun b7 => ?_)
      refine o_storeBTk sz35 (by first | exact Nth.z | exact .s .z | exact .s (.s .z) | exact .s (.s (.s .z)) | exact .s (.s (.s (.s .z))) | exact .s (.s (.s (.s (.s .z)))) | exact .s (.s (.s (.s (.s (.s .z))))) | exact .s (.s (.s (.s (.s (.s (.s .z))))))) rfl rfl rfl ?_
      refine triL_nil ?_
      refine thenQ_normal ?_
      refine tri_seq ?_
      refine tri_region ?_
      refine o_assign rfl rfl ?_
      refine o_assign rfl rfl ?_
      refine triL_nil ?_
      refine thenQ_normal ?_
      refine tri_join (ι := One) (fun j => [(1, .pointer (some ⟨b1, 0, none⟩)), (4, .pointer (some ⟨b4, 0, none⟩)), (5, .func (.func 10) #[] #[.pointer (some ⟨b4, 0, none⟩), .pointer (some ⟨b1, 0, none⟩)]), (6, .slice q.2.2.1 q.1.length q.2.2.2), (7, .pointer (some ⟨b7, 0, none⟩)), (8, .int .i64 (j.n : Int)), (9, .int .i64 j.e)]) (fun j => [box b7 35 (Tok.cs ⟨j.k, j.t, (p : Int)⟩), row (.slice q.2.2.1 q.1.length q.2.2.2) 35 3 q.1.length (toksV q.1), box b4 3 [.int .i64 (p : Int)], box b1 9 [.string (B s)]]) (fun j => OneIs (s.drop p) j) ?_ (fun j hj => ?_)
      · skip
        refine tri_seq ?_
        refine tri_region ?_
        refine o_move rfl rfl ?_
        refine o_callP (v := byteV (s.getD (p + 0) 0)) (first := []) (cap := [.pointer (some ⟨b4, 0, none⟩), .pointer (some ⟨b1, 0, none⟩)]) rfl rfl rfl Tryz.call10 (fun w1 h1 => peekK s p 0 b4 b1 w1 (RdS.box (.s (.s .z)) w1 h1) (RdS.box (.s (.s (.s .z))) w1 h1) (by omega) (by omega) (by omega)) ?_
        refine o_assign rfl rfl ?_
        refine triL_nil ?_
        refine thenQ_normal ?_
        refine tri_block ?_
        refine tri_seq ?_
        refine tri_slots [(10, _), (9, _), (7, _), (1, _), (4, _), (5, _), (6, _)] (.cons rfl (.cons rfl (.cons rfl (.cons rfl (.cons rfl (.cons rfl (.cons rfl (.nil _)))))))) ?_
        refine tri_region ?_
        refine o_move rfl rfl ?_
        refine o_callP (v := .bool (isLet (s.getD p 0))) (first := []) (cap := []) rfl rfl rfl Tryz.call12 (fun w1 h1 => letterK _ w1) ?_
        refine o_assign rfl rfl ?_
        refine triL_nil ?_
        refine thenQ_normal ?_
        refine tri_cond rfl (fun c1 => ?_) (fun c1 => ?_)
        · skip
          have c1 : isLet (s.getD p 0) = true := c1
          refine tri_seq ?_
          refine tri_slots [(9, _), (7, _), (1, _), (4, _), (5, _), (6, _)] (.cons rfl (.cons rfl (.cons rfl (.cons rfl (.cons rfl (.cons rfl (.nil _))))))) ?_
          refine tri_region ?_
          refine o_field fo35_0 rfl rfl ?_
          refine o_store sz3 (by first | exact Nth.z | exact .s .z | exact .s (.s .z) | exact .s (.s (.s .z)) | exact .s (.s (.s (.s .z))) | exact .s (.s (.s (.s (.s .z)))) | exact .s (.s (.s (.s (.s (.s .z))))) | exact .s (.s (.s (.s (.s (.s (.s .z))))))) rfl rfl rfl rfl rfl (Nat.le_of_ble_eq_true rfl) rfl ?_
          refine triL_nil ?_
          refine thenQ_normal ?_
          refine tri_seq ?_
          refine tri_region ?_
          refine o_load agg9 (by first | exact Nth.z | exact .s .z | exact .s (.s .z) | exact .s (.s (.s .z)) | exact .s (.s (.s (.s .z))) | exact .s (.s (.s (.s (.s .z)))) | exact .s (.s (.s (.s (.s (.s .z))))) | exact .s (.s (.s (.s (.s (.s (.s .z))))))) rfl rfl rfl ?_
          refine o_load agg3 (by first | exact Nth.z | exact .s .z | exact .s (.s .z) | exact .s (.s (.s .z)) | exact .s (.s (.s (.s .z))) | exact .s (.s (.s (.s (.s .z)))) | exact .s (.s (.s (.s (.s (.s .z))))) | exact .s (.s (.s (.s (.s (.s (.s .z))))))) rfl rfl rfl ?_
          refine o_sliceBl Tryz.underlying9 rfl rfl rfl (by omega) (by omega) ?_
          refine o_callP (v := .int .i64 ((runL isWd (s.drop p) : Nat) : Int)) (first := []) (cap := []) rfl rfl rfl Tryz.call13 (fun w1 h1 => runK (s.drop p) 14 (fun z => isLetZ z || isDigZ z) w1 (by rw [List.length_drop]; omega) Tryz.call14 (fun z w => wdK z w)) ?_
          have hrl := run_le isWd (s.drop p)
          rw [List.length_drop] at hrl
          refine o_assign rfl rfl ?_
          refine triL_nil ?_
          refine thenQ_normal ?_
          refine tri_slots [(8, _), (9, _), (7, _), (1, _), (4, _), (5, _), (6, _)] (.cons rfl (.cons rfl (.cons rfl (.cons rfl (.cons rfl (.cons rfl (.cons rfl (.nil _)))))))) ?_
          refine tri_region ?_
          refine o_load agg9 (by first | exact Nth.z | exact .s .z | exact .s (.s .z) | exact .s (.s (.s .z)) | exact .s (.s (.s (.s .z))) | exact .s (.s (.s (.s (.s .z)))) | exact .s (.s (.s (.s (.s (.s .z))))) | exact .s (.s (.s (.s (.s (.s (.s .z))))))) rfl rfl rfl ?_
          refine o_load agg3 (by first | exact Nth.z | exact .s .z | exact .s (.s .z) | exact .s (.s (.s .z)) | exact .s (.s (.s (.s .z))) | exact .s (.s (.s (.s (.s .z)))) | exact .s (.s (.s (.s (.s (.s .z))))) | exact .s (.s (.s (.s (.s (.s (.s .z))))))) rfl rfl rfl ?_
          refine o_load agg3 (by first | exact Nth.z | exact .s .z | exact .s (.s .z) | exact .s (.s (.s .z)) | exact .s (.s (.s (.s .z))) | exact .s (.s (.s (.s (.s .z)))) | exact .s (.s (.s (.s (.s (.s .z))))) | exact .s (.s (.s (.s (.s (.s (.s .z))))))) rfl rfl rfl ?_
          refine o_move rfl rfl ?_
          refine o_addN rfl rfl rfl (by omega) ?_
          refine o_sliceB Tryz.underlying9 rfl rfl rfl rfl (by omega) (by omega) (by omega) ?_
          refine triL_num (v' := .string (B ((s.drop p).take (runL isWd (s.drop p))))) (congrArg (fun k : Nat => Value.string (B ((s.drop p).take k))) (by omega)) ?_
          refine o_callP (first := []) (cap := []) rfl rfl rfl Tryz.call16 (fun w1 h1 => lib_lower ((s.drop p).take (runL isWd (s.drop p))) w1 (by rw [List.length_take, List.length_drop]; omega) (run_ascii (s.drop p))) ?_
          refine o_field fo35_1 rfl rfl ?_
          refine o_store sz9 (by first | exact Nth.z | exact .s .z | exact .s (.s .z) | exact .s (.s (.s .z)) | exact .s (.s (.s (.s .z))) | exact .s (.s (.s (.s (.s .z)))) | exact .s (.s (.s (.s (.s (.s .z))))) | exact .s (.s (.s (.s (.s (.s (.s .z))))))) rfl rfl rfl rfl rfl (Nat.le_of_ble_eq_true rfl) rfl ?_
          refine triL_nil ?_
          refine blockQ_normal ?_
          refine thenQ_normal ?_
          exact ⟨⟨1, small ((s.drop p).take (runL isWd (s.drop p))), runL isWd (s.drop p), 0⟩, (.cons rfl (.cons rfl (.cons rfl (.cons rfl (.cons rfl (.cons rfl (.cons rfl (.nil _)))))))), fun _ h => h, (oneIs_word (by rw [hr0]; exact c1))⟩
        · skip
          have c1 : isLet (s.getD p 0) = false := c1
          refine tri_seq ?_
          refine tri_region ?_
          refine o_move rfl rfl ?_
          refine o_callP (v := .bool (isDig (s.getD p 0))) (first := []) (cap := []) rfl rfl rfl Tryz.call15 (fun w1 h1 => digitK _ w1) ?_
          refine o_assign rfl rfl ?_
          refine triL_nil ?_
          refine thenQ_normal ?_
          refine tri_cond rfl (fun c2 => ?_) (fun c2 => ?_)
          · skip
            have c2 : isDig (s.getD p 0) = true := c2
            refine tri_seq ?_
            refine tri_slots [(7, _), (1, _), (4, _), (5, _), (6, _)] (.cons rfl (.cons rfl (.cons rfl (.cons rfl (.cons rfl (.nil _)))))) ?_
            refine tri_region ?_
            refine o_field fo35_0 rfl rfl ?_
            refine o_store sz3 (by first | exact Nth.z | exact .s .z | exact .s (.s .z) | exact .s (.s (.s .z)) | exact .s (.s (.s (.s .z))) | exact .s (.s (.s (.s (.s .z)))) | exact .s (.s (.s (.s (.s (.s .z))))) | exact .s (.s (.s (.s (.s (.s (.s .z))))))) rfl rfl rfl rfl rfl (Nat.le_of_ble_eq_true rfl) rfl ?_
            refine triL_nil ?_
            refine thenQ_normal ?_
            refine tri_seq ?_
            refine tri_region ?_
            refine o_load agg9 (by first | exact Nth.z | exact .s .z | exact .s (.s .z) | exact .s (.s (.s .z)) | exact .s (.s (.s (.s .z))) | exact .s (.s (.s (.s (.s .z)))) | exact .s (.s (.s (.s (.s (.s .z))))) | exact .s (.s (.s (.s (.s (.s (.s .z))))))) rfl rfl rfl ?_
            refine o_load agg3 (by first | exact Nth.z | exact .s .z | exact .s (.s .z) | exact .s (.s (.s .z)) | exact .s (.s (.s (.s .z))) | exact .s (.s (.s (.s (.s .z)))) | exact .s (.s (.s (.s (.s (.s .z))))) | exact .s (.s (.s (.s (.s (.s (.s .z))))))) rfl rfl rfl ?_
            refine o_sliceBl Tryz.underlying9 rfl rfl rfl (by omega) (by omega) ?_
            refine o_callP (first := []) (cap := []) rfl rfl rfl Tryz.call17 (fun w1 h1 => numberK (s.drop p) w1 (by rw [List.length_drop]; omega) (by rw [hr0]; exact c2) (hE.chg h1.chg)) ?_
            have hrl := run_le isDig (s.drop p)
            rw [List.length_drop] at hrl
            refine o_move rfl rfl ?_
            refine o_extract rfl rfl rfl ?_
            refine o_extract rfl rfl rfl ?_
            refine o_assign rfl rfl ?_
            refine o_assign rfl rfl ?_
            refine triL_nil ?_
            refine thenQ_normal ?_
            refine tri_slots [(9, _), (8, _), (7, _), (1, _), (4, _), (5, _), (6, _)] (.cons rfl (.cons rfl (.cons rfl (.cons rfl (.cons rfl (.cons rfl (.cons rfl (.nil _)))))))) ?_
            refine tri_region ?_
            refine o_load agg9 (by first | exact Nth.z | exact .s .z | exact .s (.s .z) | exact .s (.s (.s .z)) | exact .s (.s (.s (.s .z))) | exact .s (.s (.s (.s (.s .z)))) | exact .s (.s (.s (.s (.s (.s .z))))) | exact .s (.s (.s (.s (.s (.s (.s .z))))))) rfl rfl rfl ?_
            refine o_load agg3 (by first | exact Nth.z | exact .s .z | exact .s (.s .z) | exact .s (.s (.s .z)) | exact .s (.s (.s (.s .z))) | exact .s (.s (.s (.s (.s .z)))) | exact .s (.s (.s (.s (.s (.s .z))))) | exact .s (.s (.s (.s (.s (.s (.s .z))))))) rfl rfl rfl ?_
            refine o_load agg3 (by first | exact Nth.z | exact .s .z | exact .s (.s .z) | exact .s (.s (.s .z)) | exact .s (.s (.s (.s .z))) | exact .s (.s (.s (.s (.s .z)))) | exact .s (.s (.s (.s (.s (.s .z))))) | exact .s (.s (.s (.s (.s (.s (.s .z))))))) rfl rfl rfl ?_
            refine o_move rfl rfl ?_
            refine o_addN rfl rfl rfl (by omega) ?_
            refine o_sliceB Tryz.underlying9 rfl rfl rfl rfl (by omega) (by omega) (by omega) ?_
            refine triL_num (v' := .string (B ((s.drop p).take (runL isDig (s.drop p))))) (congrArg (fun k : Nat => Value.string (B ((s.drop p).take k))) (by omega)) ?_
            refine o_field fo35_1 rfl rfl ?_
            refine o_store sz9 (by first | exact Nth.z | exact .s .z | exact .s (.s .z) | exact .s (.s (.s .z)) | exact .s (.s (.s (.s .z))) | exact .s (.s (.s (.s (.s .z)))) | exact .s (.s (.s (.s (.s (.s .z))))) | exact .s (.s (.s (.s (.s (.s (.s .z))))))) rfl rfl rfl rfl rfl (Nat.le_of_ble_eq_true rfl) rfl ?_
            refine triL_nil ?_
            refine blockQ_normal ?_
            refine thenQ_normal ?_
            exact ⟨⟨2, (s.drop p).take (runL isDig (s.drop p)), runL isDig (s.drop p), if numBad (s.drop p) (runL isDig (s.drop p)) then 180 else 0⟩, (.cons rfl (.cons rfl (.cons rfl (.cons rfl (.cons rfl (.cons rfl (.cons rfl (.nil _)))))))), fun _ h => h, (oneIs_num (by rw [hr0]; exact c1) (by rw [hr0]; exact c2))⟩
          · skip
            have c2 : isDig (s.getD p 0) = false := c2
            refine tri_seq ?_
            refine tri_slots [(10, _), (9, _), (7, _), (1, _), (4, _), (5, _), (6, _)] (.cons rfl (.cons rfl (.cons rfl (.cons rfl (.cons rfl (.cons rfl (.cons rfl (.nil _)))))))) ?_
            refine tri_region ?_
            refine o_move rfl rfl ?_
            refine o_eqlU8 _ 39 rfl rfl rfl ?_
            refine o_assign rfl rfl ?_
            refine triL_nil ?_
            refine thenQ_normal ?_
            refine tri_if rfl (fun c3 => ?_) (fun c3 => ?_)
            · skip
              have c3 : s.getD p 0 = 39 := c3
              refine tri_seq ?_
              refine tri_slots [(7, _), (1, _), (4, _), (5, _), (6, _)] (.cons rfl (.cons rfl (.cons rfl (.cons rfl (.cons rfl (.nil _)))))) ?_
              refine tri_region ?_
              refine o_field fo35_0 rfl rfl ?_
              refine o_store sz3 (by first | exact Nth.z | exact .s .z | exact .s (.s .z) | exact .s (.s (.s .z)) | exact .s (.s (.s (.s .z))) | exact .s (.s (.s (.s (.s .z)))) | exact .s (.s (.s (.s (.s (.s .z))))) | exact .s (.s (.s (.s (.s (.s (.s .z))))))) rfl rfl rfl rfl rfl (Nat.le_of_ble_eq_true rfl) rfl ?_
              refine triL_nil ?_
              refine thenQ_normal ?_
              refine tri_region ?_
              refine o_load agg9 (by first | exact Nth.z | exact .s .z | exact .s (.s .z) | exact .s (.s (.s .z)) | exact .s (.s (.s (.s .z))) | exact .s (.s (.s (.s (.s .z)))) | exact .s (.s (.s (.s (.s (.s .z))))) | exact .s (.s (.s (.s (.s (.s (.s .z))))))) rfl rfl rfl ?_
              refine o_load agg3 (by first | exact Nth.z | exact .s .z | exact .s (.s .z) | exact .s (.s (.s .z)) | exact .s (.s (.s (.s .z))) | exact .s (.s (.s (.s (.s .z)))) | exact .s (.s (.s (.s (.s (.s .z))))) | exact .s (.s (.s (.s (.s (.s (.s .z))))))) rfl rfl rfl ?_
              refine o_sliceBl Tryz.underlying9 rfl rfl rfl (by omega) (by omega) ?_
              refine o_callP (first := []) (cap := []) rfl rfl rfl Tryz.call18 (fun w1 h1 => quotedK (s.drop p) w1 (by rw [List.length_drop]; omega) (by rw [List.length_drop]; omega)) ?_
              refine o_move rfl rfl ?_
              refine o_extract rfl rfl rfl ?_
              refine o_extract rfl rfl rfl ?_
              refine o_extract rfl rfl rfl ?_
              refine o_field fo35_1 rfl rfl ?_
              refine o_store sz9 (by first | exact Nth.z | exact .s .z | exact .s (.s .z) | exact .s (.s (.s .z)) | exact .s (.s (.s (.s .z))) | exact .s (.s (.s (.s (.s .z)))) | exact .s (.s (.s (.s (.s (.s .z))))) | exact .s (.s (.s (.s (.s (.s (.s .z))))))) rfl rfl rfl rfl rfl (Nat.le_of_ble_eq_true rfl) rfl ?_
              refine o_assign rfl rfl ?_
              refine o_assign rfl rfl ?_
              refine triL_nil ?_
              refine blockQ_normal ?_
              refine thenQ_normal ?_
              exact ⟨⟨3, (quoR (s.drop p)).1, (quoR (s.drop p)).2.1, (quoR (s.drop p)).2.2⟩, (.cons rfl (.cons rfl (.cons rfl (.cons rfl (.cons rfl (.cons rfl (.cons rfl (.nil _)))))))), fun _ h => h, (oneIs_text (by rw [hr0]; exact c3))⟩
            · skip
              have c3 : ¬ s.getD p 0 = 39 := c3
              refine tri_seq ?_
              refine tri_region ?_
              refine o_field fo35_0 rfl rfl ?_
              refine o_store sz3 (by first | exact Nth.z | exact .s .z | exact .s (.s .z) | exact .s (.s (.s .z)) | exact .s (.s (.s (.s .z))) | exact .s (.s (.s (.s (.s .z)))) | exact .s (.s (.s (.s (.s (.s .z))))) | exact .s (.s (.s (.s (.s (.s (.s .z))))))) rfl rfl rfl rfl rfl (Nat.le_of_ble_eq_true rfl) rfl ?_
              refine triL_nil ?_
              refine thenQ_normal ?_
              refine tri_seq ?_
              refine tri_slots [(10, _), (9, _), (7, _), (1, _), (4, _), (5, _), (6, _)] (.cons rfl (.cons rfl (.cons rfl (.cons rfl (.cons rfl (.cons rfl (.cons rfl (.nil _)))))))) ?_
              refine tri_region ?_
              refine o_move rfl rfl ?_
              refine o_move rfl rfl ?_
              refine o_callP (v := byteV (s.getD (p + 1) 0)) (first := []) (cap := [.pointer (some ⟨b4, 0, none⟩), .pointer (some ⟨b1, 0, none⟩)]) rfl rfl rfl Tryz.call10 (fun w1 h1 => peekK s p 1 b4 b1 w1 (RdS.box (.s (.s .z)) w1 h1) (RdS.box (.s (.s (.s .z))) w1 h1) (by omega) (by omega) (by omega)) ?_
              refine o_callP (v := .int .i64 ((sgnL (s.drop p) : Nat) : Int)) (first := []) (cap := []) rfl rfl rfl Tryz.call19 (fun w1 h1 => by have h := signK ((s.getD p 0).toNat : Int) ((s.getD (p + 1) 0).toNat : Int) w1; rw [← hsg] at h; exact h) ?_
              have hrl := sgnL_le hne
              rw [List.length_drop] at hrl
              refine o_assign rfl rfl ?_
              refine triL_nil ?_
              refine thenQ_normal ?_
              refine tri_seq ?_
              refine tri_slots [(8, _), (9, _), (7, _), (1, _), (4, _), (5, _), (6, _)] (.cons rfl (.cons rfl (.cons rfl (.cons rfl (.cons rfl (.cons rfl (.cons rfl (.nil _)))))))) ?_
              refine tri_region ?_
              refine o_load agg9 (by first | exact Nth.z | exact .s .z | exact .s (.s .z) | exact .s (.s (.s .z)) | exact .s (.s (.s (.s .z))) | exact .s (.s (.s (.s (.s .z)))) | exact .s (.s (.s (.s (.s (.s .z))))) | exact .s (.s (.s (.s (.s (.s (.s .z))))))) rfl rfl rfl ?_
              refine o_load agg3 (by first | exact Nth.z | exact .s .z | exact .s (.s .z) | exact .s (.s (.s .z)) | exact .s (.s (.s (.s .z))) | exact .s (.s (.s (.s (.s .z)))) | exact .s (.s (.s (.s (.s (.s .z))))) | exact .s (.s (.s (.s (.s (.s (.s .z))))))) rfl rfl rfl ?_
              refine o_load agg3 (by first | exact Nth.z | exact .s .z | exact .s (.s .z) | exact .s (.s (.s .z)) | exact .s (.s (.s (.s .z))) | exact .s (.s (.s (.s (.s .z)))) | exact .s (.s (.s (.s (.s (.s .z))))) | exact .s (.s (.s (.s (.s (.s (.s .z))))))) rfl rfl rfl ?_
              refine o_move rfl rfl ?_
              refine o_addN rfl rfl rfl (by omega) ?_
              refine o_sliceB Tryz.underlying9 rfl rfl rfl rfl (by omega) (by omega) (by omega) ?_
              refine triL_num (v' := .string (B ((s.drop p).take (sgnL (s.drop p))))) (congrArg (fun k : Nat => Value.string (B ((s.drop p).take k))) (by omega)) ?_
              refine o_field fo35_1 rfl rfl ?_
              refine o_store sz9 (by first | exact Nth.z | exact .s .z | exact .s (.s .z) | exact .s (.s (.s .z)) | exact .s (.s (.s (.s .z))) | exact .s (.s (.s (.s (.s .z)))) | exact .s (.s (.s (.s (.s (.s .z))))) | exact .s (.s (.s (.s (.s (.s (.s .z))))))) rfl rfl rfl rfl rfl (Nat.le_of_ble_eq_true rfl) rfl ?_
              refine triL_nil ?_
              refine thenQ_normal ?_
              refine tri_seq ?_
              refine tri_slots [(8, _), (9, _), (7, _), (1, _), (4, _), (5, _), (6, _)] (.cons rfl (.cons rfl (.cons rfl (.cons rfl (.cons rfl (.cons rfl (.cons rfl (.nil _)))))))) ?_
              refine tri_region ?_
              refine o_move rfl rfl ?_
              refine o_eqlI rfl rfl rfl ?_
              refine triL_nil ?_
              refine thenQ_normal ?_
              refine tri_if rfl (fun c4 => ?_) (fun c4 => ?_)
              · skip
                refine tri_region ?_
                refine o_assign rfl rfl ?_
                refine triL_nil ?_
                refine blockQ_normal ?_
                refine thenQ_normal ?_
                exact ⟨⟨4, (s.drop p).take (sgnL (s.drop p)), sgnL (s.drop p), 180⟩, (.cons rfl (.cons rfl (.cons rfl (.cons rfl (.cons rfl (.cons rfl (.cons rfl (.nil _)))))))), fun _ h => h, (oneIs_sign hne (by rw [hr0]; exact c1) (by rw [hr0]; exact c2) (by rw [hr0]; exact c3) _ (if_pos (by omega)).symm)⟩
              · skip
                refine tri_skip ?_
                refine blockQ_normal ?_
                refine thenQ_normal ?_
                exact ⟨⟨4, (s.drop p).take (sgnL (s.drop p)), sgnL (s.drop p), 0⟩, (.cons rfl (.cons rfl (.cons rfl (.cons rfl (.cons rfl (.cons rfl (.cons rfl (.nil _)))))))), fun _ h => h, (oneIs_sign hne (by rw [hr0]; exact c1) (by rw [hr0]; exact c2) (by rw [hr0]; exact c3) _ (if_neg (by omega)).symm)⟩
      have hjn := hj.2.2
      rw [List.length_drop] at hjn
      refine tri_seq ?_
      refine tri_seq ?_
      refine tri_region ?_
      refine o_move rfl rfl ?_
      refine o_neqI rfl rfl rfl ?_
      refine triL_nil ?_
      refine thenQ_normal ?_
      refine tri_if rfl (fun h6 => ?_) (fun h6 => ?_)
      · skip
        have hbad := lexInv_bad hi hp hpl (by rw [← hj.1]; exact h6)
        rw [← hj.1] at hbad
        refine tri_seq ?_
        refine tri_slots [(4, _), (9, _)] (.cons rfl (.cons rfl (.nil _))) ?_
        refine tri_quiet (by kernel_rfl) (by kernel_rfl) ?_
        refine o_move rfl rfl ?_
        refine o_load agg3 (by first | exact Nth.z | exact .s .z | exact .s (.s .z) | exact .s (.s (.s .z)) | exact .s (.s (.s (.s .z))) | exact .s (.s (.s (.s (.s .z)))) | exact .s (.s (.s (.s (.s (.s .z))))) | exact .s (.s (.s (.s (.s (.s (.s .z))))))) rfl rfl rfl ?_
        refine o_build (built29_0_1 _ _) rfl rfl ?_
        refine o_iface Tryz.underlying29 rfl rfl rfl ?_
        refine o_assign rfl rfl ?_
        refine o_assign rfl rfl ?_
        refine triL_nil ?_
        refine thenQ_normal ?_
        refine tri_ret ?_
        refine thenQ_ret ?_
        refine blockQ_ret ?_
        refine thenQ_ret ?_
        refine blockQ_ret ?_
        refine end2 rfl rfl rfl ?_
        rw [hbad]
        exact new_none (fun v => .tuple #[v, errR 29 (.error (j.e, (p : Int)))])
      · skip
        have h6 : j.e = 0 := Decidable.not_not.1 h6
        have hje := hj.2.1 h6
        have hst := lexInv_step hi hp hpl (hj.1.symm.trans h6)
        rw [← hje] at hst
        refine tri_skip ?_
        refine thenQ_normal ?_
        refine tri_seq ?_
        refine tri_region ?_
        refine o_load agg3 (by first | exact Nth.z | exact .s .z | exact .s (.s .z) | exact .s (.s (.s .z)) | exact .s (.s (.s (.s .z))) | exact .s (.s (.s (.s (.s .z)))) | exact .s (.s (.s (.s (.s (.s .z))))) | exact .s (.s (.s (.s (.s (.s (.s .z))))))) rfl rfl rfl ?_
        refine o_move rfl rfl ?_
        refine o_addN rfl rfl rfl (by omega) ?_
        refine o_store sz3 (by first | exact Nth.z | exact .s .z | exact .s (.s .z) | exact .s (.s (.s .z)) | exact .s (.s (.s (.s .z))) | exact .s (.s (.s (.s (.s .z)))) | exact .s (.s (.s (.s (.s (.s .z))))) | exact .s (.s (.s (.s (.s (.s (.s .z))))))) rfl rfl rfl rfl rfl (Nat.le_of_ble_eq_true rfl) rfl ?_
        refine triL_nil ?_
        refine thenQ_normal ?_
        refine tri_slots [(1, _), (4, _), (5, _), (6, _), (7, _)] (.cons rfl (.cons rfl (.cons rfl (.cons rfl (.cons rfl (.nil _)))))) ?_
        refine tri_region ?_
        refine o_move rfl rfl ?_
        refine o_loadBTk agg35 sz35 (by first | exact Nth.z | exact .s .z | exact .s (.s .z) | exact .s (.s (.s .z)) | exact .s (.s (.s (.s .z))) | exact .s (.s (.s (.s (.s .z)))) | exact .s (.s (.s (.s (.s (.s .z))))) | exact .s (.s (.s (.s (.s (.s (.s .z))))))) rfl rfl ?_
        refine o_lit1 (vs := toksV [⟨j.k, j.t, (p : Int)⟩]) Tryz.underlying22 zs35 rfl rfl rfl rfl rfl (by decide) (by decide) (fun b105 => ?_)
        refine o_append Tryz.underlying22 zsb35 rfl (by decide) (by first | exact Nth.z | exact .s .z | exact .s (.s .z) | exact .s (.s (.s .z)) | exact .s (.s (.s (.s .z))) | exact .s (.s (.s (.s (.s .z)))) | exact .s (.s (.s (.s (.s (.s .z))))) | exact .s (.s (.s (.s (.s (.s (.s .z))))))) rfl rfl rfl (news := toksV [⟨j.k, j.t, (p : Int)⟩]) (RdS.row .z) rfl (toksV_one _) (by unfold maxLen; omega) (by omega) (fun A106 c106 => ?_)
        refine o_assign rfl rfl ?_
        refine triL_nil ?_
        refine blockQ_normal ?_
        refine thenQ_normal ?_
        exact ⟨(q.1 ++ [⟨j.k, j.t, (p : Int)⟩], p + j.n, A106, c106), (.cons rfl (.cons rfl (.cons rfl (.cons (congrArg (fun k : Nat => some (Value.slice A106 k c106)) (by simp)) (.nil _))))), (fun w1 hw1 => by simp only [List.length_append, toksV_append]; exact hw1.tail.tail), hst.2.2, (by have := hst.1; simp only; omega)⟩

end Go.Proofs.YtdcdpegomncomaaGreatDoor
