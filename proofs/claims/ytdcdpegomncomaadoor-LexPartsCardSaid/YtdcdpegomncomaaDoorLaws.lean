/- a blank ahead of a token; texts put together, walked -/
import Derived.Test.YtdcdpegomncomaaDoorWalks4
namespace Go.Proofs.YtdcdpegomncomaaDoor
open Go.WK Go.RowKit 

theorem fo32_2 : fieldB Tryd.prog 32 2 = some 2 := by kernel_rfl
theorem bval32  : Tryd.prog.built 32 [] = some (Tok.cs ⟨0, [], 0⟩).toArray := by kernel_rfl

theorem partedK (s : List UInt8) (X : Option Addr) (n c : Nat) (ts : List Tok) (wh : Int) (w : World) (hr : Rd w X (toksV ts)) (hn : ts.length = n) (e1 : lexL s = .ok ts) (hs : s.length ≤ 2000) (hw : -9223372036854775808 ≤ wh ∧ wh ≤ 9223372036854775807) (hE : LE w) : Calls Tryd.prog 10 #[.string (B s), .slice X n c, .int .i64 wh] w (Pure w (.bool true)) := by
  refine calls_tri (args := [.string (B s), .slice X n c, .int .i64 wh]) (lent := []) (H := []) Tryd.func10 rfl Tryd.ntmps10 rfl (Sat.start _ _ _ _) ?_
  refine (show Tri _ [(0, _), (1, _), (2, _)] _ _ _ from ?_)
  have hR : ∀ cx H, cx.w0 = w → cx.lent = [] → RdS cx H X (toksV ts) := fun cx H q1 q2 => RdS.arg (by rw [q1]; exact hr) q2
  have hpos := lex_some e1
  have hbd := tmod_bd (x := wh) (n := (n : Int)) (by omega)
  have hnl := tks_le e1 hn
  refine tri_seq ?_
  refine tri_region ?_
  refine o_assign rfl rfl ?_
  refine triL_nil ?_
  refine thenQ_normal ?_
  refine tri_seq ?_
  refine tri_region ?_
  refine o_move rfl rfl ?_
  refine o_move rfl rfl ?_
  refine o_lenS Tryd.underlying26 rfl rfl ?_
  refine o_rem rfl rfl rfl (by omega) ?_
  refine o_assign rfl rfl ?_
  refine triL_nil ?_
  refine thenQ_normal ?_
  refine tri_join (ι := Nat) (fun k => [(0, .string (B s)), (1, .slice X n c), (7, .int .i64 (k : Int))]) (fun k => []) (fun k => k < n) ?_ (fun k hj => ?_)
  · skip
    refine tri_seq ?_
    refine tri_slots [(7, _), (0, _), (1, _)] (.cons rfl (.cons rfl (.cons rfl (.nil _)))) ?_
    refine tri_region ?_
    refine o_move rfl rfl ?_
    refine o_lss rfl rfl rfl ?_
    refine triL_nil ?_
    refine thenQ_normal ?_
    refine tri_if rfl (fun h0 => ?_) (fun h0 => ?_)
    · skip
      refine tri_region ?_
      refine o_move rfl rfl ?_
      refine o_move rfl rfl ?_
      refine o_lenS Tryd.underlying26 rfl rfl ?_
      refine o_addN rfl rfl rfl (by omega) ?_
      refine o_assign rfl rfl ?_
      refine triL_nil ?_
      refine thenQ_normal ?_
      exact ⟨(wh.tmod (n : Int) + (n : Int)).toNat, (.cons rfl (.cons rfl (.cons (congrArg (fun z : Int => some (Value.int .i64 z)) (by omega)) (.nil _)))), fun _ h => h, (by omega)⟩
    · skip
      refine tri_skip ?_
      refine thenQ_normal ?_
      exact ⟨(wh.tmod (n : Int)).toNat, (.cons rfl (.cons rfl (.cons (congrArg (fun z : Int => some (Value.int .i64 z)) (by omega)) (.nil _)))), fun _ h => h, (by omega)⟩
  obtain ⟨j, hj1, hj2, hj3⟩ := lex_blank hs e1 (k := k) (by omega)
  have hjl : (s.take j ++ [32] ++ s.drop j).length = s.length + 1 := by simp; omega
  have hNT : (ts.take k ++ (ts.drop k).map (shT 1)).length = n := by simp; omega
  refine tri_seq ?_
  refine tri_region ?_
  refine o_move rfl rfl ?_
  refine o_move rfl rfl ?_
  refine o_idxS Tryd.underlying26 sz32 rfl rfl rfl (hR _ _ rfl rfl) (by omega) (by omega) (by rw [toksV_length]; omega) (by decide) ?_
  refine o_fieldAt fo32_2 rfl rfl (hR _ _ rfl rfl) (toksV_k ts k (by omega)) ?_
  refine o_loadR agg3 rfl rfl (hR _ _ rfl rfl) (toksV_a ts k (by omega)) ?_
  refine o_assign rfl rfl ?_
  rw [hj1]
  refine triL_nil ?_
  refine thenQ_normal ?_
  refine tri_seq ?_
  refine tri_slots [(8, _), (0, _), (1, _), (7, _)] (.cons rfl (.cons rfl (.cons rfl (.cons rfl (.nil _))))) ?_
  refine tri_mix (_) [(0, true), (1, true), (2, true), (3, true), (4, true), (5, true), (6, true), (7, true), (8, false), (9, true), (10, true), (11, true), (12, true), (13, false)] [13] (by kernel_rfl) (by kernel_rfl) (fun _ h => h) ?_
  refine mix_fix rfl ?_
  refine o_move rfl rfl ?_
  refine triL_nil ⟨rfl, ?_⟩
  refine mix_fix rfl ?_
  refine o_move rfl rfl ?_
  refine triL_nil ⟨rfl, ?_⟩
  refine mix_fix rfl ?_
  refine o_sliceBh Tryd.underlying9 rfl rfl rfl (by omega) (by omega) ?_
  refine triL_nil ⟨rfl, ?_⟩
  refine mix_fix rfl ?_
  refine o_cat rfl rfl rfl (by simp; omega) ?_
  refine triL_nil ⟨rfl, ?_⟩
  refine mix_fix rfl ?_
  refine o_move rfl rfl ?_
  refine triL_nil ⟨rfl, ?_⟩
  refine mix_fix rfl ?_
  refine o_move rfl rfl ?_
  refine triL_nil ⟨rfl, ?_⟩
  refine mix_fix rfl ?_
  refine o_sliceBl Tryd.underlying9 rfl rfl rfl (by omega) (by omega) ?_
  refine triL_nil ⟨rfl, ?_⟩
  refine mix_fix rfl ?_
  refine o_cat rfl rfl rfl (by simp; omega) ?_
  refine triL_nil ⟨rfl, ?_⟩
  refine mix_op rfl ?_
  refine o_callF (first := []) (cap := []) (fun v => .tuple #[v, errR 37 (lexL (s.take j ++ [32] ++ s.drop j))]) rfl rfl rfl Tryd.call9 (fun w1 h1 => lexK (s.take j ++ [32] ++ s.drop j) w1 (by rw [hjl]; omega) (hE.chg h1.chg)) (fun A37 c37 => ?_)
  rw [hj3]
  simp only [tks, errR]
  refine triL_nil ⟨rfl, fun _ _ h => Sat.dropS 1 h, ?_⟩
  refine mix_fix rfl ?_
  refine o_move rfl rfl ?_
  refine triL_nil ⟨rfl, ?_⟩
  refine mix_fix rfl ?_
  refine o_extract rfl rfl rfl ?_
  refine triL_nil ⟨rfl, ?_⟩
  refine mix_fix rfl ?_
  refine o_extract rfl rfl rfl ?_
  refine triL_nil ⟨rfl, ?_⟩
  refine mix_fix rfl ?_
  refine o_assign rfl rfl ?_
  refine triL_nil ⟨rfl, ?_⟩
  refine mix_rest [13] [_] rfl rfl ?_
  refine o_assign rfl rfl ?_
  refine triL_nil ⟨rfl, ?_⟩
  refine thenQ_normal ?_
  refine tri_seq ?_
  refine tri_seq ?_
  refine tri_slots [(10, _), (9, _), (1, _), (7, _)] (.cons rfl (.cons rfl (.cons rfl (.cons rfl (.nil _))))) ?_
  refine tri_region ?_
  refine o_move rfl rfl ?_
  refine o_neqErr ifE (.inl ⟨rfl, rfl⟩) rfl rfl ?_
  refine o_move rfl rfl ?_
  refine' triL_or [_, _, _, _, _] [(9, _), (1, _), (7, _)] (dj := 42) (dr := 47) rfl rfl (fun g1 => ?_) ⟨_, rfl, rfl, rfl, (.cons rfl (.cons rfl (.cons rfl (.nil _))))⟩ rfl ?_
  rotate_left
  · skip
    refine o_move rfl rfl ?_
    refine o_lenS Tryd.underlying26 rfl rfl ?_
    refine o_move rfl rfl ?_
    refine o_lenS Tryd.underlying26 rfl rfl ?_
    refine o_neqI rfl rfl rfl ?_
    exact triL_nil (Piece.mk rfl rfl (.cons rfl (.cons rfl (.cons rfl (.nil _)))) (fun _ h => h))
  refine triL_nil ?_
  refine thenQ_normal ?_
  refine tri_cond_false (congrArg (fun b : Bool => some (Value.bool b)) (by rw [hNT]; simp)) ?_
  refine tri_skip ?_
  refine thenQ_normal ?_
  refine tri_seq ?_
  refine tri_seq ?_
  refine tri_region ?_
  refine o_assign rfl rfl ?_
  refine triL_nil ?_
  refine thenQ_normal ?_
  refine tri_block ?_
  refine tri_loop (ι := Nat) (F := fun i => [(1, .slice X n c), (7, .int .i64 (k : Int)), (9, .slice A37 (ts.take k ++ (ts.drop k).map (shT 1)).length c37), (11, .int .i64 (i : Int))]) (HH := fun i => [row (.slice A37 (ts.take k ++ (ts.drop k).map (shT 1)).length c37) 32 3 (ts.take k ++ (ts.drop k).map (shT 1)).length (toksV (ts.take k ++ (ts.drop k).map (shT 1)))]) (Pu := fun i => i ≤ n) (μ := fun i => n - i) (0) (.cons rfl (.cons rfl (.cons rfl (.cons rfl (.nil _))))) (fun _ h => h) (by omega) (fun i hi => ?_)
  refine tri_seq ?_
  refine tri_seq ?_
  refine tri_region ?_
  refine o_move rfl rfl ?_
  refine o_move rfl rfl ?_
  refine o_lenS Tryd.underlying26 rfl rfl ?_
  refine o_lss rfl rfl rfl ?_
  refine triL_nil ?_
  refine thenQ_normal ?_
  refine tri_if rfl (fun h2 => ?_) (fun h2 => ?_)
  · skip
    refine tri_skip ?_
    refine thenQ_normal ?_
    refine tri_seq ?_
    refine tri_block ?_
    refine tri_seq ?_
    refine tri_slots [(1, _), (7, _), (9, _), (11, _)] (.cons rfl (.cons rfl (.cons rfl (.cons rfl (.nil _))))) ?_
    refine tri_region ?_
    refine o_move rfl rfl ?_
    refine o_move rfl rfl ?_
    refine o_idxS Tryd.underlying26 sz32 rfl rfl rfl (hR _ _ rfl rfl) (by omega) (by omega) (by rw [toksV_length]; omega) (by decide) ?_
    refine o_loadTk i agg32 sz32 rfl rfl (hR _ _ rfl rfl) (by omega) (by omega) ?_
    refine o_alloc (Tok.cs Tok.zero) rfl zero32 rfl (fun b12 => ?_)
    refine o_storeBTk sz32 (by repeat (first | exact Nth.z | apply Nth.s)) rfl rfl rfl ?_
    have hat := tok_at e1 (i := i) (by omega)
    refine triL_nil ?_
    refine thenQ_normal ?_
    refine tri_join (ι := Unit) (fun u => [(1, .slice X n c), (7, .int .i64 (k : Int)), (9, .slice A37 (ts.take k ++ (ts.drop k).map (shT 1)).length c37), (11, .int .i64 (i : Int)), (12, .pointer (some ⟨b12, 0, none⟩))]) (fun u => [box b12 32 ((ts.take k ++ (ts.drop k).map (shT 1)).getD i Tok.zero).cs, row (.slice A37 (ts.take k ++ (ts.drop k).map (shT 1)).length c37) 32 3 (ts.take k ++ (ts.drop k).map (shT 1)).length (toksV (ts.take k ++ (ts.drop k).map (shT 1)))]) (fun u => True) ?_ (fun u hj => ?_)
    · skip
      refine tri_seq ?_
      refine tri_slots [(12, _), (1, _), (7, _), (9, _), (11, _)] (.cons rfl (.cons rfl (.cons rfl (.cons rfl (.cons rfl (.nil _)))))) ?_
      refine tri_region ?_
      refine o_move rfl rfl ?_
      refine o_move rfl rfl ?_
      refine o_geq rfl rfl rfl ?_
      refine triL_nil ?_
      refine thenQ_normal ?_
      refine tri_if rfl (fun h3 => ?_) (fun h3 => ?_)
      · skip
        refine tri_region ?_
        refine o_field fo32_2 rfl rfl ?_
        refine o_load agg3 (by repeat (first | exact Nth.z | apply Nth.s)) rfl rfl rfl ?_
        refine o_addN rfl rfl rfl (by omega) ?_
        refine o_field fo32_2 rfl rfl ?_
        refine o_store sz3 (by repeat (first | exact Nth.z | apply Nth.s)) rfl rfl rfl rfl rfl (Nat.le_of_ble_eq_true rfl) rfl ?_
        refine triL_nil ?_
        refine thenQ_normal ?_
        have hx := blankT_get (ts := ts) (k := k) (i := i) (by omega)
        rw [if_pos (by omega)] at hx
        exact ⟨(), (.cons rfl (.cons rfl (.cons rfl (.cons rfl (.cons rfl (.nil _)))))), (fun w1 hw1 => by rw [hx]; exact hw1), trivial⟩
      · skip
        refine tri_skip ?_
        refine thenQ_normal ?_
        have hx := blankT_get (ts := ts) (k := k) (i := i) (by omega)
        rw [if_neg (by omega)] at hx
        exact ⟨(), (.cons rfl (.cons rfl (.cons rfl (.cons rfl (.cons rfl (.nil _)))))), (fun w1 hw1 => by rw [hx]; exact hw1), trivial⟩
    refine tri_seq ?_
    refine tri_quiet (by kernel_rfl) (by kernel_rfl) ?_
    refine o_move rfl rfl ?_
    refine o_move rfl rfl ?_
    refine o_idxS Tryd.underlying26 sz32 rfl rfl rfl (RdS.row (.s .z)) (by omega) (by omega) (by rw [toksV_length]) (by decide) ?_
    refine o_loadTk i agg32 sz32 rfl rfl (RdS.row (.s .z)) (by omega) (by omega) ?_
    refine o_loadBTk agg32 sz32 (by repeat (first | exact Nth.z | apply Nth.s)) rfl rfl ?_
    refine o_neqTk flat32 rfl rfl rfl ?_
    refine triL_nil ?_
    refine thenQ_normal ?_
    refine tri_cond_false (congrArg (fun b : Bool => some (Value.bool b)) (by simp)) ?_
    refine tri_skip ?_
    refine blockQ_normal ?_
    refine thenQ_normal ?_
    refine tri_slots [(1, _), (7, _), (9, _), (11, _)] (.cons rfl (.cons rfl (.cons rfl (.cons rfl (.nil _))))) ?_
    refine tri_region ?_
    refine o_move rfl rfl ?_
    refine o_addN rfl rfl rfl (by omega) ?_
    refine o_assign rfl rfl ?_
    refine triL_nil ?_
    refine thenQ_normal ?_
    exact ⟨i + 1, (.cons rfl (.cons rfl (.cons rfl (.cons rfl (.nil _))))), (fun w1 hw1 => hw1.tail), by omega, by omega⟩
  · skip
    refine tri_exit ?_
    refine thenQ_exit ?_
    refine thenQ_exit ?_
    refine blockQ_here ?_
    refine thenQ_normal ?_
    refine tri_seq ?_
    refine tri_slots [] (.nil _) ?_
    refine tri_region ?_
    refine o_assign rfl rfl ?_
    refine triL_nil ?_
    refine thenQ_normal ?_
    refine tri_ret ?_
    refine end1 rfl rfl ?_
    exact fun w1 hw1 => ⟨congrArg (fun b => Ending.returned (.bool b)) (by simp), hw1.chg⟩

theorem lexParts (s t : List UInt8) (wh : Int) (w : World) (hs0 : s.length ≤ 140737488355328) (ht0 : t.length ≤ 140737488355328) (hw : -9223372036854775808 ≤ wh ∧ wh ≤ 9223372036854775807) (hE : LE w) : Calls Tryd.prog 4 #[.string (B s), .string (B t), .int .i64 wh] w (Pure w (.bool true)) := by
  refine calls_tri (args := [.string (B s), .string (B t), .int .i64 wh]) (lent := []) (H := []) Tryd.func4 rfl Tryd.ntmps4 rfl (Sat.start _ _ _ _) ?_
  refine (show Tri _ [(0, _), (1, _), (2, _)] _ _ _ from ?_)
  refine tri_seq ?_
  refine tri_region ?_
  refine o_assign rfl rfl ?_
  refine triL_nil ?_
  refine thenQ_normal ?_
  refine tri_seq ?_
  refine tri_seq ?_
  refine tri_region ?_
  refine o_move rfl rfl ?_
  refine o_lenB Tryd.underlying9 rfl rfl ?_
  refine o_gtr rfl rfl rfl ?_
  refine o_move rfl rfl ?_
  refine' triL_or [_, _, _] [(0, _), (1, _), (2, _)] (dj := 18) (dr := 21) rfl rfl (fun g1 => ?_) ⟨_, rfl, rfl, rfl, (.cons rfl (.cons rfl (.cons rfl (.nil _))))⟩ rfl ?_
  rotate_left
  · skip
    refine o_move rfl rfl ?_
    refine o_lenB Tryd.underlying9 rfl rfl ?_
    refine o_gtr rfl rfl rfl ?_
    exact triL_nil (Piece.mk rfl rfl (.cons rfl (.cons rfl (.cons rfl (.nil _)))) (fun _ h => h))
  refine triL_nil ?_
  refine thenQ_normal ?_
  refine tri_cond rfl (fun h0 => ?_) (fun h0 => ?_)
  · skip
    refine tri_seq ?_
    refine tri_slots [] (.nil _) ?_
    refine tri_region ?_
    refine o_callP (first := []) (cap := []) rfl rfl rfl Tryd.call8 (fun w_ hw_ => awakeK w_ (hE.chg hw_.chg)) ?_
    refine o_assign rfl rfl ?_
    refine triL_nil ?_
    refine thenQ_normal ?_
    refine tri_ret ?_
    refine thenQ_ret ?_
    refine end1 rfl rfl ?_
    exact fun w1 hw1 => ⟨congrArg (fun b => Ending.returned (.bool b)) (by simp), hw1.chg⟩
  · skip
    simp only [Bool.or_eq_false_iff, decide_eq_false_iff_not] at h0
    have hs1 : s.length ≤ 2000 := by omega
    have ht1 : t.length ≤ 2000 := by omega
    refine tri_skip ?_
    refine thenQ_normal ?_
    refine tri_seq ?_
    refine tri_region ?_
    refine o_move rfl rfl ?_
    refine o_callF (first := []) (cap := []) (fun v => .tuple #[v, errR 37 (lexL s)]) rfl rfl rfl Tryd.call9 (fun w1 h1 => lexK s w1 (by omega) (hE.chg h1.chg)) (fun A26 c26 => ?_)
    refine o_move rfl rfl ?_
    refine o_extract rfl rfl rfl ?_
    refine o_extract rfl rfl rfl ?_
    refine o_assign rfl rfl ?_
    refine o_assign rfl rfl ?_
    refine triL_nil ?_
    refine thenQ_normal ?_
    refine tri_seq ?_
    refine tri_slots [(8, _), (7, _), (0, _), (1, _), (2, _)] (.cons rfl (.cons rfl (.cons rfl (.cons rfl (.cons rfl (.nil _)))))) ?_
    refine tri_region ?_
    refine o_move rfl rfl ?_
    refine o_callF (first := []) (cap := []) (fun v => .tuple #[v, errR 37 (lexL t)]) rfl rfl rfl Tryd.call9 (fun w1 h1 => lexK t w1 (by omega) (hE.chg h1.chg)) (fun A31 c31 => ?_)
    refine o_move rfl rfl ?_
    refine o_extract rfl rfl rfl ?_
    refine o_extract rfl rfl rfl ?_
    refine o_assign rfl rfl ?_
    refine o_assign rfl rfl ?_
    refine triL_nil ?_
    refine thenQ_normal ?_
    refine tri_seq ?_
    refine tri_seq ?_
    refine tri_slots [(10, _), (9, _), (8, _), (7, _), (0, _), (1, _), (2, _)] (.cons rfl (.cons rfl (.cons rfl (.cons rfl (.cons rfl (.cons rfl (.cons rfl (.nil _)))))))) ?_
    refine tri_region ?_
    refine o_move rfl rfl ?_
    refine o_neqErr ifE (errIs _ _) rfl rfl ?_
    refine o_move rfl rfl ?_
    refine' triL_or [_, _] [(10, _), (9, _), (8, _), (7, _), (0, _), (1, _), (2, _)] (dj := 36) (dr := 38) rfl rfl (fun g2 => ?_) ⟨_, rfl, rfl, rfl, (.cons rfl (.cons rfl (.cons rfl (.cons rfl (.cons rfl (.cons rfl (.cons rfl (.nil _))))))))⟩ rfl ?_
    rotate_left
    · skip
      refine o_move rfl rfl ?_
      refine o_neqErr ifE (errIs _ _) rfl rfl ?_
      exact triL_nil (Piece.mk rfl rfl (.cons rfl (.cons rfl (.cons rfl (.cons rfl (.cons rfl (.cons rfl (.cons rfl (.nil _)))))))) (fun _ h => h))
    refine o_move rfl rfl ?_
    refine' triL_or [_, _, _] [(10, _), (9, _), (8, _), (7, _), (0, _), (1, _), (2, _)] (dj := 40) (dr := 43) rfl rfl (fun g3 => ?_) ⟨_, rfl, rfl, rfl, (.cons rfl (.cons rfl (.cons rfl (.cons rfl (.cons rfl (.cons rfl (.cons rfl (.nil _))))))))⟩ rfl ?_
    rotate_left
    · skip
      refine o_move rfl rfl ?_
      refine o_lenS Tryd.underlying26 rfl rfl ?_
      refine o_eqlI rfl rfl rfl ?_
      exact triL_nil (Piece.mk rfl rfl (.cons rfl (.cons rfl (.cons rfl (.cons rfl (.cons rfl (.cons rfl (.cons rfl (.nil _)))))))) (fun _ h => h))
    refine o_move rfl rfl ?_
    refine' triL_or [_, _, _] [(10, _), (9, _), (8, _), (7, _), (0, _), (1, _), (2, _)] (dj := 45) (dr := 48) rfl rfl (fun g4 => ?_) ⟨_, rfl, rfl, rfl, (.cons rfl (.cons rfl (.cons rfl (.cons rfl (.cons rfl (.cons rfl (.cons rfl (.nil _))))))))⟩ rfl ?_
    rotate_left
    · skip
      refine o_move rfl rfl ?_
      refine o_lenS Tryd.underlying26 rfl rfl ?_
      refine o_eqlI rfl rfl rfl ?_
      exact triL_nil (Piece.mk rfl rfl (.cons rfl (.cons rfl (.cons rfl (.cons rfl (.cons rfl (.cons rfl (.cons rfl (.nil _)))))))) (fun _ h => h))
    refine triL_nil ?_
    refine thenQ_normal ?_
    refine tri_cond rfl (fun h1 => ?_) (fun h1 => ?_)
    · skip
      have hbad := parts_bad (s := s) (t := t) h1
      refine tri_seq ?_
      refine tri_slots [(10, _), (8, _)] (.cons rfl (.cons rfl (.nil _))) ?_
      refine tri_region ?_
      refine o_move rfl rfl ?_
      refine o_neqErr ifE (errIs _ _) rfl rfl ?_
      refine o_move rfl rfl ?_
      refine' triL_or [_, _] [] (dj := 52) (dr := 54) rfl rfl (fun g5 => ?_) ⟨_, rfl, rfl, rfl, (.nil _)⟩ rfl ?_
      rotate_left
      · skip
        refine o_move rfl rfl ?_
        refine o_neqErr ifE (errIs _ _) rfl rfl ?_
        exact triL_nil (Piece.mk rfl rfl (.nil _) (fun _ h => h))
      refine o_move rfl rfl ?_
      refine' triL_and [_] [] (dj := 56) (dr := 57) rfl rfl (fun g6 => ?_) ⟨_, rfl, rfl, rfl, (.nil _)⟩ rfl ?_
      rotate_left
      · skip
        refine o_callP (first := []) (cap := []) rfl rfl rfl Tryd.call8 (fun w_ hw_ => awakeK w_ (hE.chg hw_.chg)) ?_
        exact triL_nil (Piece.mk rfl rfl (.nil _) (fun _ h => h))
      refine o_assign rfl rfl ?_
      refine triL_nil ?_
      refine thenQ_normal ?_
      refine tri_ret ?_
      refine thenQ_ret ?_
      refine end1 rfl rfl ?_
      exact fun w1 hw1 => ⟨congrArg (fun b => Ending.returned (.bool b)) (by rw [hbad]; rfl), hw1.chg⟩
    · skip
      have ⟨⟨ts, e1⟩, us, e2⟩ := parts_good h1
      rw [e1, e2]
      simp only [tks, errR]
      have l1 := lex_some e1
      have l2 := lex_some e2
      have m1 := tks_le e1 rfl
      have m2 := tks_le e2 rfl
      have e3 : lexL (s ++ [10] ++ t) = .ok (bothT ts us s.length) := lex_parts hs1 ht1 e1 e2
      have hbl := bothT_len (ts := ts) (us := us) (n := s.length)
      refine tri_skip ?_
      refine thenQ_normal ?_
      refine tri_seq ?_
      refine tri_region ?_
      refine o_move rfl rfl ?_
      refine o_cat (m := [10]) rfl rfl rfl (by simp; omega) ?_
      refine o_move rfl rfl ?_
      refine o_cat rfl rfl rfl (by simp; omega) ?_
      refine o_callF (first := []) (cap := []) (fun v => .tuple #[v, errR 37 (lexL (s ++ [10] ++ t))]) rfl rfl rfl Tryd.call9 (fun w1 h1 => lexK (s ++ [10] ++ t) w1 (by simp; omega) (hE.chg h1.chg)) (fun A64 c64 => ?_)
      rw [e3]
      simp only [tks, errR]
      refine o_move rfl rfl ?_
      refine o_extract rfl rfl rfl ?_
      refine o_extract rfl rfl rfl ?_
      refine o_assign rfl rfl ?_
      refine o_assign rfl rfl ?_
      refine triL_nil ?_
      refine thenQ_normal ?_
      refine tri_seq ?_
      refine tri_seq ?_
      refine tri_slots [(12, _), (11, _), (9, _), (7, _), (0, _), (2, _)] (.cons rfl (.cons rfl (.cons rfl (.cons rfl (.cons rfl (.cons rfl (.nil _))))))) ?_
      refine tri_region ?_
      refine o_move rfl rfl ?_
      refine o_neqErr ifE (.inl ⟨rfl, rfl⟩) rfl rfl ?_
      refine o_move rfl rfl ?_
      refine' triL_or [_, _, _, _, _, _, _, _, _] [(11, _), (9, _), (7, _), (0, _), (2, _)] (dj := 69) (dr := 78) rfl rfl (fun g7 => ?_) ⟨_, rfl, rfl, rfl, (.cons rfl (.cons rfl (.cons rfl (.cons rfl (.cons rfl (.nil _))))))⟩ rfl ?_
      rotate_left
      · skip
        refine o_move rfl rfl ?_
        refine o_lenS Tryd.underlying26 rfl rfl ?_
        refine o_move rfl rfl ?_
        refine o_lenS Tryd.underlying26 rfl rfl ?_
        refine o_move rfl rfl ?_
        refine o_lenS Tryd.underlying26 rfl rfl ?_
        refine o_addN rfl rfl rfl (by omega) ?_
        refine o_subN rfl rfl rfl (by omega) ?_
        refine o_neqI rfl rfl rfl ?_
        exact triL_nil (Piece.mk rfl rfl (.cons rfl (.cons rfl (.cons rfl (.cons rfl (.cons rfl (.nil _)))))) (fun _ h => h))
      refine triL_nil ?_
      refine thenQ_normal ?_
      refine tri_cond_false (congrArg (fun b : Bool => some (Value.bool b)) (by rw [hbl]; simp; omega)) ?_
      refine tri_skip ?_
      refine thenQ_normal ?_
      refine tri_seq ?_
      refine tri_seq ?_
      refine tri_region ?_
      refine o_assign rfl rfl ?_
      refine triL_nil ?_
      refine thenQ_normal ?_
      refine tri_block ?_
      refine tri_loop (ι := Nat) (F := fun i => [(0, .string (B s)), (2, .int .i64 wh), (7, .slice A26 ts.length c26), (9, .slice A31 us.length c31), (11, .slice A64 (bothT ts us s.length).length c64), (13, .int .i64 (i : Int))]) (HH := fun i => [row (.slice A64 (bothT ts us s.length).length c64) 32 3 (bothT ts us s.length).length (toksV (bothT ts us s.length)), row (.slice A31 us.length c31) 32 3 us.length (toksV us), row (.slice A26 ts.length c26) 32 3 ts.length (toksV ts)]) (Pu := fun i => i ≤ (bothT ts us s.length).length) (μ := fun i => (bothT ts us s.length).length - i) (0) (.cons rfl (.cons rfl (.cons rfl (.cons rfl (.cons rfl (.cons rfl (.nil _))))))) (fun _ h => h) (Nat.zero_le _) (fun i hi => ?_)
      refine tri_seq ?_
      refine tri_seq ?_
      refine tri_region ?_
      refine o_move rfl rfl ?_
      refine o_move rfl rfl ?_
      refine o_lenS Tryd.underlying26 rfl rfl ?_
      refine o_lss rfl rfl rfl ?_
      refine triL_nil ?_
      refine thenQ_normal ?_
      refine tri_if rfl (fun h3 => ?_) (fun h3 => ?_)
      · skip
        refine tri_skip ?_
        refine thenQ_normal ?_
        refine tri_seq ?_
        refine tri_block ?_
        refine tri_seq ?_
        refine tri_slots [(0, _), (2, _), (7, _), (9, _), (11, _), (13, _)] (.cons rfl (.cons rfl (.cons rfl (.cons rfl (.cons rfl (.cons rfl (.nil _))))))) ?_
        refine tri_region ?_
        refine o_build bval32 rfl rfl ?_
        refine o_alloc (Tok.cs Tok.zero) rfl zero32 rfl (fun b14 => ?_)
        refine o_storeBTk sz32 (by repeat (first | exact Nth.z | apply Nth.s)) rfl rfl rfl ?_
        refine triL_nil ?_
        refine thenQ_normal ?_
        refine tri_join (ι := Unit) (fun u => [(0, .string (B s)), (2, .int .i64 wh), (7, .slice A26 ts.length c26), (9, .slice A31 us.length c31), (11, .slice A64 (bothT ts us s.length).length c64), (13, .int .i64 (i : Int)), (14, .pointer (some ⟨b14, 0, none⟩))]) (fun u => [box b14 32 ((bothT ts us s.length).getD i Tok.zero).cs, row (.slice A64 (bothT ts us s.length).length c64) 32 3 (bothT ts us s.length).length (toksV (bothT ts us s.length)), row (.slice A31 us.length c31) 32 3 us.length (toksV us), row (.slice A26 ts.length c26) 32 3 ts.length (toksV ts)]) (fun u => True) ?_ (fun u hj => ?_)
        · skip
          refine tri_seq ?_
          refine tri_region ?_
          refine o_move rfl rfl ?_
          refine o_move rfl rfl ?_
          refine o_lenS Tryd.underlying26 rfl rfl ?_
          refine o_subN rfl rfl rfl (by omega) ?_
          refine o_lss rfl rfl rfl ?_
          refine triL_nil ?_
          refine thenQ_normal ?_
          refine tri_if rfl (fun h4 => ?_) (fun h4 => ?_)
          · skip
            refine tri_slots [(14, _), (0, _), (2, _), (7, _), (9, _), (11, _), (13, _)] (.cons rfl (.cons rfl (.cons rfl (.cons rfl (.cons rfl (.cons rfl (.cons rfl (.nil _)))))))) ?_
            refine tri_region ?_
            refine o_move rfl rfl ?_
            refine o_move rfl rfl ?_
            refine o_idxS Tryd.underlying26 sz32 rfl rfl rfl (RdS.row (i := 3) (.s (.s (.s .z)))) (by omega) (by omega) (by rw [toksV_length]) (by decide) ?_
            refine o_loadTk i agg32 sz32 rfl rfl (RdS.row (i := 3) (.s (.s (.s .z)))) (by omega) (by omega) ?_
            refine o_storeBTk sz32 (by repeat (first | exact Nth.z | apply Nth.s)) rfl rfl rfl ?_
            refine triL_nil ?_
            refine thenQ_normal ?_
            have hx := bothT_low (ts := ts) (us := us) (n := s.length) (i := i) (by omega)
            exact ⟨(), (.cons rfl (.cons rfl (.cons rfl (.cons rfl (.cons rfl (.cons rfl (.cons rfl (.nil _)))))))), (fun w1 hw1 => by rw [hx]; exact hw1), trivial⟩
          · skip
            refine tri_seq ?_
            refine tri_slots [(14, _), (0, _), (2, _), (7, _), (9, _), (11, _), (13, _)] (.cons rfl (.cons rfl (.cons rfl (.cons rfl (.cons rfl (.cons rfl (.cons rfl (.nil _)))))))) ?_
            refine tri_region ?_
            refine o_move rfl rfl ?_
            refine o_move rfl rfl ?_
            refine o_move rfl rfl ?_
            refine o_lenS Tryd.underlying26 rfl rfl ?_
            refine o_subN rfl rfl rfl (by omega) ?_
            refine o_addN rfl rfl rfl (by omega) ?_
            refine o_idxS Tryd.underlying26 sz32 rfl rfl rfl (RdS.row (i := 2) (.s (.s .z))) (by omega) (by omega) (by rw [toksV_length]) (by decide) ?_
            refine o_loadTk (i + 1 - ts.length) agg32 sz32 rfl rfl (RdS.row (i := 2) (.s (.s .z))) (by omega) (by omega) ?_
            refine o_storeBTk sz32 (by repeat (first | exact Nth.z | apply Nth.s)) rfl rfl rfl ?_
            have hat := tok_at e2 (i := i + 1 - ts.length) (by omega)
            refine triL_nil ?_
            refine thenQ_normal ?_
            refine tri_slots [(14, _), (0, _), (2, _), (7, _), (9, _), (11, _), (13, _)] (.cons rfl (.cons rfl (.cons rfl (.cons rfl (.cons rfl (.cons rfl (.cons rfl (.nil _)))))))) ?_
            refine tri_region ?_
            refine o_field fo32_2 rfl rfl ?_
            refine o_load agg3 (by repeat (first | exact Nth.z | apply Nth.s)) rfl rfl rfl ?_
            refine o_move rfl rfl ?_
            refine o_lenB Tryd.underlying9 rfl rfl ?_
            refine o_addN rfl rfl rfl (by omega) ?_
            refine o_addN rfl rfl rfl (by omega) ?_
            refine o_field fo32_2 rfl rfl ?_
            refine o_store sz3 (by repeat (first | exact Nth.z | apply Nth.s)) rfl rfl rfl rfl rfl (Nat.le_of_ble_eq_true rfl) rfl ?_
            refine triL_nil ?_
            refine thenQ_normal ?_
            have hx := bothT_high (ts := ts) (us := us) (n := s.length) (i := i) (by omega) (by omega) (by omega)
            have hz : shT ((s.length : Int) + 1) (us.getD (i + 1 - ts.length) Tok.zero) = ⟨(us.getD (i + 1 - ts.length) Tok.zero).k, (us.getD (i + 1 - ts.length) Tok.zero).t, (us.getD (i + 1 - ts.length) Tok.zero).a + (s.length : Int) + 1⟩ := by simp only [shT, Int.add_assoc]
            exact ⟨(), (.cons rfl (.cons rfl (.cons rfl (.cons rfl (.cons rfl (.cons rfl (.cons rfl (.nil _)))))))), (fun w1 hw1 => by rw [hx, hz]; exact hw1), trivial⟩
        refine tri_seq ?_
        refine tri_quiet (by kernel_rfl) (by kernel_rfl) ?_
        refine o_move rfl rfl ?_
        refine o_move rfl rfl ?_
        refine o_idxS Tryd.underlying26 sz32 rfl rfl rfl (RdS.row (.s .z)) (by omega) (by omega) (by rw [toksV_length]) (by decide) ?_
        refine o_loadTk i agg32 sz32 rfl rfl (RdS.row (.s .z)) (by omega) (by omega) ?_
        refine o_loadBTk agg32 sz32 (by repeat (first | exact Nth.z | apply Nth.s)) rfl rfl ?_
        refine o_neqTk flat32 rfl rfl rfl ?_
        refine triL_nil ?_
        refine thenQ_normal ?_
        refine tri_cond_false (congrArg (fun b : Bool => some (Value.bool b)) (by simp)) ?_
        refine tri_skip ?_
        refine blockQ_normal ?_
        refine thenQ_normal ?_
        refine tri_slots [(0, _), (2, _), (7, _), (9, _), (11, _), (13, _)] (.cons rfl (.cons rfl (.cons rfl (.cons rfl (.cons rfl (.cons rfl (.nil _))))))) ?_
        refine tri_region ?_
        refine o_move rfl rfl ?_
        refine o_addN rfl rfl rfl (by omega) ?_
        refine o_assign rfl rfl ?_
        refine triL_nil ?_
        refine thenQ_normal ?_
        exact ⟨i + 1, (.cons rfl (.cons rfl (.cons rfl (.cons rfl (.cons rfl (.cons rfl (.nil _))))))), (fun w1 hw1 => hw1.tail), by omega, by omega⟩
      · skip
        refine tri_exit ?_
        refine thenQ_exit ?_
        refine thenQ_exit ?_
        refine blockQ_here ?_
        refine thenQ_normal ?_
        refine tri_seq ?_
        refine tri_slots [(0, _), (2, _), (7, _)] (.cons rfl (.cons rfl (.cons rfl (.nil _)))) ?_
        refine tri_region ?_
        refine o_move rfl rfl ?_
        refine o_move rfl rfl ?_
        refine o_move rfl rfl ?_
        refine o_callP (first := []) (cap := []) rfl rfl rfl Tryd.call10 (fun w1 h1 => partedK s A26 ts.length c26 ts wh w1 (h1.rd (RdS.row (i := 2) (.s (.s .z)))) rfl e1 hs1 hw (hE.chg h1.chg)) ?_
        refine o_move rfl rfl ?_
        refine' triL_and [_] [] (dj := 121) (dr := 122) rfl rfl (fun g8 => ?_) ⟨_, rfl, rfl, rfl, (.nil _)⟩ rfl ?_
        rotate_left
        · skip
          refine o_callP (first := []) (cap := []) rfl rfl rfl Tryd.call8 (fun w_ hw_ => awakeK w_ (hE.chg hw_.chg)) ?_
          exact triL_nil (Piece.mk rfl rfl (.nil _) (fun _ h => h))
        refine o_assign rfl rfl ?_
        refine triL_nil ?_
        refine thenQ_normal ?_
        refine tri_ret ?_
        refine end1 rfl rfl ?_
        exact fun w1 hw1 => ⟨congrArg (fun b => Ending.returned (.bool b)) (by simp), hw1.chg⟩

end Go.Proofs.YtdcdpegomncomaaDoor
