/- the laws of tokens, walked -/
import Derived.Test.YtdcdpegomncomaaGreatDoorWalks8
namespace Go.Proofs.YtdcdpegomncomaaGreatDoor
open Go.WK Go.RowKit 

theorem bval35_0 (x : Int) : Tryz.prog.built 35 [(0, .int .i64 x)] = some (Tok.cs ⟨x, [], 0⟩).toArray := by kernel_rfl
theorem fo29_1 : fieldB Tryz.prog 29 1 = some 1 := by kernel_rfl

theorem flatF : flatB Tryz.prog 29 = some fKs := by kernel_rfl
theorem tks_bound (s : List UInt8) : (tks (lexL s)).length ≤ 100000 := by
  cases h : lexL s with
  | ok ts => have := tks_le h rfl; have := (lexL_ok h).1; simp only [tks]; omega
  | error e => simp [tks]

theorem lexTokens (s : List UInt8) (w : World) (hs : s.length ≤ 140737488351232) (hE : LE w) (hX : LX w) : Calls Tryz.prog 3 #[.string (B s)] w (Pure w (.bool true)) := by
  refine calls_tri (args := [.string (B s)]) (lent := []) (H := []) Tryz.func3 rfl Tryz.ntmps3 rfl (Sat.start _ _ _ _) ?_
  refine (show Tri _ [(0, _)] _ _ _ from ?_)
  have hle := tks_bound s
  refine tri_seq ?_
  refine tri_region ?_
  refine o_assign rfl rfl ?_
  refine triL_nil ?_
  refine thenQ_normal ?_
  refine tri_seq ?_
  refine tri_region ?_
  refine o_move rfl rfl ?_
  refine o_callF (first := []) (cap := []) (fun v => .tuple #[v, errR 29 (lexL s)]) rfl rfl rfl Tryz.call5 (fun w1 h1 => lexK s w1 (by omega) (hE.chg h1.chg)) (fun A12 c12 => ?_)
  refine o_move rfl rfl ?_
  refine o_extract rfl rfl rfl ?_
  refine o_extract rfl rfl rfl ?_
  refine o_assign rfl rfl ?_
  refine o_assign rfl rfl ?_
  refine triL_nil ?_
  refine thenQ_normal ?_
  refine tri_seq ?_
  refine tri_slots [(4, _), (3, _), (0, _)] (.cons rfl (.cons rfl (.cons rfl (.nil _)))) ?_
  refine tri_region ?_
  refine o_move rfl rfl ?_
  refine o_callF (first := []) (cap := []) (fun v => .tuple #[v, errR 29 (lexL s)]) rfl rfl rfl Tryz.call5 (fun w1 h1 => lexK s w1 (by omega) (hE.chg h1.chg)) (fun A17 c17 => ?_)
  refine o_move rfl rfl ?_
  refine o_extract rfl rfl rfl ?_
  refine o_extract rfl rfl rfl ?_
  refine o_assign rfl rfl ?_
  refine o_assign rfl rfl ?_
  refine triL_nil ?_
  refine thenQ_normal ?_
  refine tri_seq ?_
  refine tri_slots [(6, _), (5, _), (4, _), (3, _), (0, _)] (.cons rfl (.cons rfl (.cons rfl (.cons rfl (.cons rfl (.nil _)))))) ?_
  refine tri_region ?_
  refine o_move rfl rfl ?_
  refine o_callF (first := []) (cap := []) (fun v => .tuple #[v, .agg #[.int .i64 (fc (lexL s)).1, .int .i64 (fc (lexL s)).2]]) rfl rfl rfl Tryz.call6 (fun w1 h1 => lexRef s w1 hs) (fun A22 c22 => ?_)
  refine o_move rfl rfl ?_
  refine o_extract rfl rfl rfl ?_
  refine o_extract rfl rfl rfl ?_
  refine o_alloc _ rfl zero29 rfl (fun b8 => ?_)
  refine o_assign rfl rfl ?_
  refine o_store sz29 (by repeat (first | exact Nth.z | apply Nth.s)) rfl rfl rfl rfl rfl (Nat.le_of_ble_eq_true rfl) rfl ?_
  refine triL_nil ?_
  refine thenQ_normal ?_
  refine tri_seq ?_
  refine tri_seq ?_
  refine tri_slots [(7, _), (8, _), (6, _), (5, _), (4, _), (3, _)] (.cons rfl (.cons rfl (.cons rfl (.cons rfl (.cons rfl (.cons rfl (.nil _))))))) ?_
  refine tri_mix (_) [(0, true), (2, true), (1, false), (3, true), (4, true), (5, true), (7, true), (6, false), (8, true), (9, true), (10, true), (11, true), (12, true), (13, false), (14, true), (15, true), (16, true), (17, true), (18, true), (19, false), (20, false), (21, false)] [19, 20, 21] (by kernel_rfl) (by kernel_rfl) (fun _ h => h) ?_
  refine mix_fix rfl ?_
  refine o_move rfl rfl ?_
  refine triL_nil ⟨rfl, ?_⟩
  refine mix_fix rfl ?_
  refine o_loadA agg29 sz29 .z rfl rfl (vs := fcs (lexL s)) rfl rfl ?_
  refine triL_nil ⟨rfl, ?_⟩
  refine mix_op rfl ?_
  refine o_callP (first := []) (cap := []) rfl rfl rfl Tryz.call7 (fun w1 h1 => faultK (lexL s) w1 (hX.chg h1.chg)) ?_
  refine triL_nil ⟨rfl, fun _ _ h => Sat.dropS 0 h, ?_⟩
  refine mix_fix rfl ?_
  refine o_neqAF (ks := fKs) (vs := fcs (lexL s)) flatF (fcs_fits _) (fcs_same _) rfl rfl rfl ?_
  refine triL_nil ⟨rfl, ?_⟩
  refine mix_fix rfl ?_
  refine o_move rfl rfl ?_
  refine triL_nil ⟨rfl, ?_⟩
  refine mix_fix rfl ?_
  refine o_move rfl rfl ?_
  refine triL_nil ⟨rfl, ?_⟩
  refine mix_fix rfl ?_
  refine o_loadA agg29 sz29 .z rfl rfl (vs := fcs (lexL s)) rfl rfl ?_
  refine triL_nil ⟨rfl, ?_⟩
  refine mix_op rfl ?_
  refine o_callP (first := []) (cap := []) rfl rfl rfl Tryz.call7 (fun w1 h1 => faultK (lexL s) w1 (hX.chg h1.chg)) ?_
  refine triL_nil ⟨rfl, fun _ _ h => Sat.dropS 0 h, ?_⟩
  refine mix_fix rfl ?_
  refine o_neqAF (ks := fKs) (vs := fcs (lexL s)) flatF (fcs_fits _) (fcs_same _) rfl rfl rfl ?_
  refine triL_nil ⟨rfl, ?_⟩
  refine mix_fix rfl ?_
  refine o_pickF rfl rfl rfl rfl ?_
  refine triL_nil ⟨rfl, ?_⟩
  refine mix_fix rfl ?_
  refine o_move rfl rfl ?_
  refine triL_nil ⟨rfl, ?_⟩
  refine mix_fix rfl ?_
  refine o_move rfl rfl ?_
  refine triL_nil ⟨rfl, ?_⟩
  refine mix_fix rfl ?_
  refine o_move rfl rfl ?_
  refine triL_nil ⟨rfl, ?_⟩
  refine mix_op rfl ?_
  refine o_callP (first := []) (cap := []) rfl rfl rfl Tryz.call8 (fun w1 h1 => sameR _ _ (tks (lexL s)).length _ (tks (lexL s)).length _ (tks (lexL s)) (tks (lexL s)) w1 (h1.rd (RdS.row (i := 3) (.s (.s (.s .z))))) (h1.rd (RdS.row (i := 1) (.s .z))) rfl rfl hle hle) ?_
  rw [decide_eq_true (rfl : tks (lexL s) = tks (lexL s))]
  refine triL_nil ⟨rfl, fun _ _ h => Sat.dropS 0 h, ?_⟩
  refine mix_fix rfl ?_
  refine o_not rfl rfl ?_
  refine triL_nil ⟨rfl, ?_⟩
  refine mix_fix rfl ?_
  refine o_pickF rfl rfl rfl rfl ?_
  refine triL_nil ⟨rfl, ?_⟩
  refine mix_fix rfl ?_
  refine o_move rfl rfl ?_
  refine triL_nil ⟨rfl, ?_⟩
  refine mix_fix rfl ?_
  refine o_move rfl rfl ?_
  refine triL_nil ⟨rfl, ?_⟩
  refine mix_fix rfl ?_
  refine o_move rfl rfl ?_
  refine triL_nil ⟨rfl, ?_⟩
  refine mix_rest [19, 20, 21] [_, _, _] rfl rfl ?_
  refine o_callP (first := []) (cap := []) rfl rfl rfl Tryz.call8 (fun w1 h1 => sameR _ _ (tks (lexL s)).length _ (tks (lexL s)).length _ (tks (lexL s)) (tks (lexL s)) w1 (h1.rd (RdS.row (i := 2) (.s (.s .z)))) (h1.rd (RdS.row (i := 1) (.s .z))) rfl rfl hle hle) ?_
  rw [decide_eq_true (rfl : tks (lexL s) = tks (lexL s))]
  refine o_not rfl rfl ?_
  refine o_pickF rfl rfl rfl rfl ?_
  refine triL_nil ⟨rfl, ?_⟩
  refine thenQ_normal ?_
  refine tri_cond_false rfl ?_
  refine tri_skip ?_
  refine thenQ_normal ?_
  refine tri_seq ?_
  refine tri_seq ?_
  refine tri_slots [(7, _), (5, _), (3, _)] (.cons rfl (.cons rfl (.cons rfl (.nil _)))) ?_
  refine tri_region ?_
  refine o_assign rfl rfl ?_
  refine triL_nil ?_
  refine thenQ_normal ?_
  refine tri_block ?_
  refine tri_loop (ι := Nat × List Tok) (F := fun q => [(3, .slice A12 (tks (lexL s)).length c12), (5, .slice A17 (tks (lexL s)).length c17), (7, .slice A22 (tks (lexL s)).length c22), (9, .int .i64 (q.1 : Int))]) (HH := fun q => [row (.slice A22 (tks (lexL s)).length c22) 35 3 (tks (lexL s)).length (toksV (tks (lexL s))), row (.slice A17 (tks (lexL s)).length c17) 35 3 (tks (lexL s)).length (toksV (tks (lexL s))), row (.slice A12 (tks (lexL s)).length c12) 35 3 (tks (lexL s)).length (toksV q.2)]) (Pu := fun q => q.1 ≤ (tks (lexL s)).length ∧ q.2.length = (tks (lexL s)).length) (μ := fun q => (tks (lexL s)).length - q.1) ((0, (tks (lexL s)))) (.cons rfl (.cons rfl (.cons rfl (.cons rfl (.nil _))))) (fun _ h => h.tail) (⟨Nat.zero_le _, rfl⟩) (fun q hi => ?_)
  refine tri_seq ?_
  refine tri_seq ?_
  refine tri_region ?_
  refine o_move rfl rfl ?_
  refine o_move rfl rfl ?_
  refine o_lenS Tryz.underlying22 rfl rfl ?_
  refine o_lss rfl rfl rfl ?_
  refine triL_nil ?_
  refine thenQ_normal ?_
  refine tri_if rfl (fun h1 => ?_) (fun h1 => ?_)
  · skip
    refine tri_skip ?_
    refine thenQ_normal ?_
    refine tri_seq ?_
    refine tri_block ?_
    refine tri_slots [(3, _), (5, _), (7, _), (9, _)] (.cons rfl (.cons rfl (.cons rfl (.cons rfl (.nil _))))) ?_
    refine tri_region ?_
    refine o_move rfl rfl ?_
    refine o_move rfl rfl ?_
    refine o_build (bval35_0 _) rfl rfl ?_
    refine o_idxS Tryz.underlying22 sz35 rfl rfl rfl (RdS.row (i := 2) (.s (.s .z))) (by omega) (by omega) (by rw [toksV_length, hi.2]) (by decide) ?_
    refine o_storeRA sz35 (by repeat (first | exact Nth.z | apply Nth.s)) rfl rfl rfl (vs := Tok.cs _) rfl rfl (by decide) (by rw [toksV_length, hi.2]; omega) rfl ?_
    refine triL_nil ?_
    refine blockQ_normal ?_
    refine thenQ_normal ?_
    refine tri_slots [(3, _), (5, _), (7, _), (9, _)] (.cons rfl (.cons rfl (.cons rfl (.cons rfl (.nil _))))) ?_
    refine tri_region ?_
    refine o_move rfl rfl ?_
    refine o_addN rfl rfl rfl (by omega) ?_
    refine o_assign rfl rfl ?_
    refine triL_nil ?_
    refine thenQ_normal ?_
    exact ⟨(q.1 + 1, q.2.set q.1 ⟨9, [], 0⟩), (.cons rfl (.cons rfl (.cons rfl (.cons rfl (.nil _))))), (fun w1 hw1 => by rw [← toksV_set q.2 q.1 ⟨9, [], 0⟩ (by omega)]; exact hw1), ⟨by simp only; omega, by simp only [List.length_set]; exact hi.2⟩, (by simp only; omega)⟩
  · skip
    refine tri_exit ?_
    refine thenQ_exit ?_
    refine thenQ_exit ?_
    refine blockQ_here ?_
    refine thenQ_normal ?_
    refine tri_seq ?_
    refine tri_slots [(5, _), (7, _)] (.cons rfl (.cons rfl (.nil _))) ?_
    refine tri_region ?_
    refine o_move rfl rfl ?_
    refine o_move rfl rfl ?_
    refine o_callP (first := []) (cap := []) rfl rfl rfl Tryz.call8 (fun w1 h1 => sameR _ _ (tks (lexL s)).length _ (tks (lexL s)).length _ (tks (lexL s)) (tks (lexL s)) w1 (h1.rd (RdS.row (i := 1) (.s .z))) (h1.rd (RdS.row (i := 0) .z)) rfl rfl hle hle) ?_
    rw [decide_eq_true (rfl : tks (lexL s) = tks (lexL s))]
    refine o_move rfl rfl ?_
    refine' triL_and [_] [] (dj := 60) (dr := 61) rfl rfl (fun g1 => ?_) ⟨_, rfl, rfl, rfl, (.nil _)⟩ rfl ?_
    rotate_left
    · skip
      refine o_callP (first := []) (cap := []) rfl rfl rfl Tryz.call9 (fun w_ hw_ => awakeK w_ (hE.chg hw_.chg)) ?_
      exact triL_nil (Piece.mk rfl rfl (.nil _) (fun _ h => h))
    refine o_assign rfl rfl ?_
    refine triL_nil ?_
    refine thenQ_normal ?_
    refine tri_ret ?_
    refine end1 rfl rfl ?_
    exact fun w1 hw1 => ⟨congrArg (fun b => Ending.returned (.bool b)) (by simp), hw1.chg⟩

theorem lexFirst (s t : List UInt8) (w : World) (hs0 : s.length ≤ 140737488355328) (ht0 : t.length ≤ 140737488355328) (hE : LE w) (hX : LX w) : Calls Tryz.prog 4 #[.string (B s), .string (B t)] w (Pure w (.bool true)) := by
  refine calls_tri (args := [.string (B s), .string (B t)]) (lent := []) (H := []) Tryz.func4 rfl Tryz.ntmps4 rfl (Sat.start _ _ _ _) ?_
  refine (show Tri _ [(0, _), (1, _)] _ _ _ from ?_)
  have hcode := lex_code (s ++ [10])
  refine tri_seq ?_
  refine tri_region ?_
  refine o_assign rfl rfl ?_
  refine triL_nil ?_
  refine thenQ_normal ?_
  refine tri_seq ?_
  refine tri_seq ?_
  refine tri_region ?_
  refine o_move rfl rfl ?_
  refine o_lenB Tryz.underlying9 rfl rfl ?_
  refine o_gtr rfl rfl rfl ?_
  refine o_move rfl rfl ?_
  refine' triL_or [_, _, _] [(0, _), (1, _)] (dj := 13) (dr := 16) rfl rfl (fun g1 => ?_) ⟨_, rfl, rfl, rfl, (.cons rfl (.cons rfl (.nil _)))⟩ rfl ?_
  rotate_left
  · skip
    refine o_move rfl rfl ?_
    refine o_lenB Tryz.underlying9 rfl rfl ?_
    refine o_gtr rfl rfl rfl ?_
    exact triL_nil (Piece.mk rfl rfl (.cons rfl (.cons rfl (.nil _))) (fun _ h => h))
  refine triL_nil ?_
  refine thenQ_normal ?_
  refine tri_cond rfl (fun h0 => ?_) (fun h0 => ?_)
  · skip
    refine tri_seq ?_
    refine tri_region ?_
    refine o_callP (first := []) (cap := []) rfl rfl rfl Tryz.call9 (fun w_ hw_ => awakeK w_ (hE.chg hw_.chg)) ?_
    refine o_assign rfl rfl ?_
    refine triL_nil ?_
    refine thenQ_normal ?_
    refine tri_ret ?_
    refine thenQ_ret ?_
    refine end1 rfl rfl ?_
    exact fun w1 hw1 => ⟨congrArg (fun b => Ending.returned (.bool b)) (by simp), hw1.chg⟩
  · skip
    simp only [Bool.or_eq_false_iff, decide_eq_false_iff_not] at h0
    have hs1 : s.length ≤ 2000 := by omega
    have ht1 : t.length ≤ 2000 := by omega
    refine tri_skip ?_
    refine thenQ_normal ?_
    refine tri_seq ?_
    refine tri_region ?_
    refine o_move rfl rfl ?_
    refine o_cat (m := [10]) rfl rfl rfl (by simp; omega) ?_
    refine o_callF (first := []) (cap := []) (fun v => .tuple #[v, errR 29 (lexL (s ++ [10]))]) rfl rfl rfl Tryz.call5 (fun w1 h1 => lexK (s ++ [10]) w1 (by simp; omega) (hE.chg h1.chg)) (fun A22 c22 => ?_)
    refine o_move rfl rfl ?_
    refine o_extract rfl rfl rfl ?_
    refine o_extract rfl rfl rfl ?_
    refine o_assign rfl rfl ?_
    refine o_assign rfl rfl ?_
    refine triL_nil ?_
    refine thenQ_normal ?_
    refine tri_seq ?_
    refine tri_slots [(6, _), (0, _), (1, _)] (.cons rfl (.cons rfl (.cons rfl (.nil _)))) ?_
    refine tri_region ?_
    refine o_move rfl rfl ?_
    refine o_callP (first := []) (cap := []) rfl rfl rfl Tryz.call7 (fun w1 h1 => faultK (lexL (s ++ [10])) w1 (hX.chg h1.chg)) ?_
    refine o_alloc _ rfl zero29 rfl (fun b7 => ?_)
    refine o_store sz29 (by repeat (first | exact Nth.z | apply Nth.s)) rfl rfl rfl rfl rfl (Nat.le_of_ble_eq_true rfl) rfl ?_
    refine triL_nil ?_
    refine thenQ_normal ?_
    refine tri_seq ?_
    refine tri_seq ?_
    refine tri_region ?_
    refine o_field fo29_0 rfl rfl ?_
    refine o_load agg27 (by repeat (first | exact Nth.z | apply Nth.s)) rfl rfl rfl ?_
    refine o_neqI rfl rfl rfl ?_
    refine o_move rfl rfl ?_
    refine' triL_or [_, _, _, _, _] [(7, _), (0, _), (1, _)] (dj := 30) (dr := 35) rfl rfl (fun G4 => ?_) ⟨_, rfl, rfl, rfl, (.cons rfl (.cons rfl (.cons rfl (.nil _))))⟩ rfl ?_
    rotate_left
    · skip
      have G5 := Decidable.not_not.1 (of_decide_eq_false G4)
      have G6 := first_idx hs1 G5
      refine o_move rfl rfl ?_
      refine o_field fo29_1 rfl rfl ?_
      refine o_load agg3 (by repeat (first | exact Nth.z | apply Nth.s)) rfl rfl rfl ?_
      refine o_idxB Tryz.underlying9 rfl rfl rfl G6.1 G6.2 ?_
      refine o_eqlU8 _ 39 rfl rfl rfl ?_
      exact triL_nil (Piece.mk rfl rfl (.cons rfl (.cons rfl (.cons rfl (.nil _)))) (fun _ h => h))
    refine triL_nil ?_
    refine thenQ_normal ?_
    refine tri_cond rfl (fun hc => ?_) (fun hc => ?_)
    · skip
      refine tri_seq ?_
      refine tri_region ?_
      refine o_field fo29_0 rfl rfl ?_
      refine o_load agg27 (by repeat (first | exact Nth.z | apply Nth.s)) rfl rfl rfl ?_
      refine o_geq rfl rfl rfl ?_
      refine o_move rfl rfl ?_
      refine' triL_and [_] [] (dj := 40) (dr := 41) rfl rfl (fun g2 => ?_) ⟨_, rfl, rfl, rfl, (.nil _)⟩ rfl ?_
      rotate_left
      · skip
        refine o_callP (first := []) (cap := []) rfl rfl rfl Tryz.call9 (fun w_ hw_ => awakeK w_ (hE.chg hw_.chg)) ?_
        exact triL_nil (Piece.mk rfl rfl (.nil _) (fun _ h => h))
      refine o_assign rfl rfl ?_
      refine triL_nil ?_
      refine thenQ_normal ?_
      refine tri_ret ?_
      refine thenQ_ret ?_
      refine end1 rfl rfl ?_
      exact fun w1 hw1 => ⟨congrArg (fun b => Ending.returned (.bool b)) (by rw [decide_eq_true hcode]; rfl), hw1.chg⟩
    · skip
      have hc1 : (fc (lexL (s ++ [10]))).1 = 180 := Decidable.not_not.1 (of_decide_eq_false (Bool.or_eq_false_iff.1 hc).1)
      have hc2 : s.getD (fc (lexL (s ++ [10]))).2.toNat 0 ≠ 39 := of_decide_eq_false (Bool.or_eq_false_iff.1 hc).2
      have hsame := first_same hs1 ht1 hc1 hc2
      refine tri_skip ?_
      refine thenQ_normal ?_
      refine tri_seq ?_
      refine tri_region ?_
      refine o_move rfl rfl ?_
      refine o_cat (m := [10]) rfl rfl rfl (by simp; omega) ?_
      refine o_move rfl rfl ?_
      refine o_cat rfl rfl rfl (by simp; omega) ?_
      refine o_callF (first := []) (cap := []) (fun v => .tuple #[v, errR 29 (lexL (s ++ [10] ++ t))]) rfl rfl rfl Tryz.call5 (fun w1 h1 => lexK (s ++ [10] ++ t) w1 (by simp; omega) (hE.chg h1.chg)) (fun A48 c48 => ?_)
      rw [hsame]
      refine o_move rfl rfl ?_
      refine o_extract rfl rfl rfl ?_
      refine o_extract rfl rfl rfl ?_
      refine o_assign rfl rfl ?_
      refine o_assign rfl rfl ?_
      refine triL_nil ?_
      refine thenQ_normal ?_
      refine tri_seq ?_
      refine tri_slots [(9, _), (7, _)] (.cons rfl (.cons rfl (.nil _))) ?_
      refine tri_mix (_) [(0, true), (2, true), (1, false), (3, false), (4, false), (5, false), (6, false), (7, false)] [3, 4, 5, 6, 7] (by kernel_rfl) (by kernel_rfl) (fun _ h => h) ?_
      refine mix_fix rfl ?_
      refine o_move rfl rfl ?_
      refine triL_nil ⟨rfl, ?_⟩
      refine mix_fix rfl ?_
      refine o_loadA agg29 sz29 (.s .z) rfl rfl (vs := fcs (lexL (s ++ [10]))) rfl rfl ?_
      refine triL_nil ⟨rfl, ?_⟩
      refine mix_op rfl ?_
      refine o_callP (first := []) (cap := []) rfl rfl rfl Tryz.call7 (fun w1 h1 => faultK (lexL (s ++ [10])) w1 (hX.chg h1.chg)) ?_
      refine triL_nil ⟨rfl, fun _ _ h => Sat.dropS 0 h, ?_⟩
      refine mix_rest [3, 4, 5, 6, 7] [_, _, _, _, _] rfl rfl ?_
      refine o_eqlAT (ks := fKs) (vs := fcs (lexL (s ++ [10]))) flatF (fcs_fits _) (fcs_same _) rfl rfl rfl ?_
      refine o_move rfl rfl ?_
      refine o_callP (first := []) (cap := []) rfl rfl rfl Tryz.call9 (fun w_ hw_ => awakeK w_ (hE.chg hw_.chg)) ?_
      refine o_pickT rfl rfl rfl rfl ?_
      refine o_assign rfl rfl ?_
      refine triL_nil ⟨rfl, ?_⟩
      refine thenQ_normal ?_
      refine tri_ret ?_
      refine end1 rfl rfl ?_
      exact fun w1 hw1 => ⟨congrArg (fun b => Ending.returned (.bool b)) (by simp), hw1.chg⟩

end Go.Proofs.YtdcdpegomncomaaGreatDoor
