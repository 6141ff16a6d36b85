/- the lexer's functions, walked: gaps, numerals, quoted texts, words -/
import Derived.Test.YtdcdpegomncomaaGreatDoorWalks
import Derived.Test.YtdcdpegomncomaaGreatDoorLLib
namespace Go.Proofs.YtdcdpegomncomaaGreatDoor
open Go.WK Go.RowKit 

theorem agg3 : aggB Tryz.prog 3 = some false := by kernel_rfl
theorem agg9 : aggB Tryz.prog 9 = some false := by kernel_rfl
theorem zs5 : (Tryz.prog.info? 5).map (fun i => (i.zero, i.size)) = some (some (.int .u8 0), 1) := by kernel_rfl
theorem zsb5 : (Tryz.prog.info? 5).map (fun i => (i.zero, i.size, i.bytes)) = some (some (.int .u8 0), 1, 1) := by kernel_rfl

theorem skipK (s : List UInt8) (a : Nat) (w : World) (hs : s.length ≤ 140737488355328) (ha : a ≤ s.length) : Calls Tryz.prog 11 #[.string (B s), .int .i64 (a : Int)] w (Pure w (.int .i64 ((a + gap (s.drop a) : Nat) : Int))) := by
  refine calls_tri (args := [.string (B s), .int .i64 (a : Int)]) (lent := []) (H := []) Tryz.func11 rfl Tryz.ntmps11 rfl (Sat.start _ _ _ _) ?_
  refine (show Tri _ [(0, _), (1, _)] _ _ _ from ?_)
  refine tri_seq ?_
  refine tri_region ?_
  refine o_assign rfl rfl ?_
  refine triL_nil ?_
  refine thenQ_normal ?_
  refine tri_seq ?_
  refine tri_block ?_
  refine tri_loop (ι := Nat) (F := fun i => [(0, .string (B s)), (1, .int .i64 (i : Int))]) (HH := fun i => []) (Pu := fun i => i ≤ s.length ∧ a + gap (s.drop a) = i + gapM false (s.drop i)) (μ := fun i => s.length - i) (a) (.cons rfl (.cons rfl (.nil _))) (fun _ h => h) (⟨ha, rfl⟩) (fun i hi => ?_)
  refine tri_seq ?_
  refine tri_seq ?_
  refine tri_region ?_
  refine o_move rfl rfl ?_
  refine o_move rfl rfl ?_
  refine o_lenB Tryz.underlying9 rfl rfl ?_
  refine o_lss rfl rfl rfl ?_
  refine triL_nil ?_
  refine thenQ_normal ?_
  refine tri_if rfl (fun h0 => ?_) (fun h0 => ?_)
  · skip
    refine tri_skip ?_
    refine thenQ_normal ?_
    refine tri_block ?_
    refine tri_seq ?_
    refine tri_slots [(0, _), (1, _)] (.cons rfl (.cons rfl (.nil _))) ?_
    refine tri_region ?_
    refine o_move rfl rfl ?_
    refine o_move rfl rfl ?_
    refine o_idxB Tryz.underlying9 rfl rfl rfl (by omega) (by omega) ?_
    refine o_assign rfl rfl ?_
    refine triL_nil ?_
    refine thenQ_normal ?_
    refine tri_block ?_
    refine tri_seq ?_
    refine tri_region ?_
    refine o_move rfl rfl ?_
    refine o_eqlU8 _ 32 rfl rfl rfl ?_
    refine o_move rfl rfl ?_
    refine' triL_or [_, _] [(5, _), (0, _), (1, _)] (dj := 18) (dr := 20) rfl rfl (fun g1 => ?_) ⟨_, rfl, rfl, rfl, (.cons rfl (.cons rfl (.cons rfl (.nil _))))⟩ rfl ?_
    rotate_left
    · skip
      refine o_move rfl rfl ?_
      refine o_eqlU8 _ 9 rfl rfl rfl ?_
      exact triL_nil (Piece.mk rfl rfl (.cons rfl (.cons rfl (.cons rfl (.nil _)))) (fun _ h => h))
    refine o_move rfl rfl ?_
    refine' triL_or [_, _] [(5, _), (0, _), (1, _)] (dj := 22) (dr := 24) rfl rfl (fun g2 => ?_) ⟨_, rfl, rfl, rfl, (.cons rfl (.cons rfl (.cons rfl (.nil _))))⟩ rfl ?_
    rotate_left
    · skip
      refine o_move rfl rfl ?_
      refine o_eqlU8 _ 10 rfl rfl rfl ?_
      exact triL_nil (Piece.mk rfl rfl (.cons rfl (.cons rfl (.cons rfl (.nil _)))) (fun _ h => h))
    refine o_move rfl rfl ?_
    refine' triL_or [_, _] [(0, _), (1, _)] (dj := 26) (dr := 28) rfl rfl (fun g3 => ?_) ⟨_, rfl, rfl, rfl, (.cons rfl (.cons rfl (.nil _)))⟩ rfl ?_
    rotate_left
    · skip
      refine o_move rfl rfl ?_
      refine o_eqlU8 _ 13 rfl rfl rfl ?_
      exact triL_nil (Piece.mk rfl rfl (.cons rfl (.cons rfl (.nil _))) (fun _ h => h))
    refine o_assign rfl rfl ?_
    refine triL_nil ?_
    refine thenQ_normal ?_
    refine tri_cond rfl (fun hb => ?_) (fun hb => ?_)
    · skip
      have hb : isBl (s.getD i 0) = true := hb
      refine tri_region ?_
      refine o_move rfl rfl ?_
      refine o_addN rfl rfl rfl (by omega) ?_
      refine o_assign rfl rfl ?_
      refine triL_nil ?_
      refine blockQ_normal ?_
      refine blockQ_normal ?_
      refine thenQ_normal ?_
      have e := gap_bl (i := i) (by omega) hb
      exact ⟨i + 1, (.cons rfl (.cons rfl (.nil _))), fun _ h => h, ⟨by omega, by omega⟩, by omega⟩
    · skip
      have hb : isBl (s.getD i 0) = false := hb
      refine tri_seq ?_
      refine tri_region ?_
      refine o_move rfl rfl ?_
      refine o_move rfl rfl ?_
      refine o_sliceBl Tryz.underlying9 rfl rfl rfl (by omega) (by omega) ?_
      refine o_callP (first := []) (cap := []) rfl rfl rfl Tryz.call25 (fun w1 h1 => lib_prefix (s.drop i) [45, 45] w1) ?_
      refine o_assign rfl rfl ?_
      refine triL_nil ?_
      refine thenQ_normal ?_
      refine tri_cond rfl (fun hp => ?_) (fun hp => ?_)
      · skip
        have hp : ([45, 45] : List UInt8).isPrefixOf (s.drop i) = true := hp
        rw [prefix_dash] at hp
        simp only [Bool.and_eq_true, decide_eq_true_eq] at hp
        have hp : s.getD i 0 = 45 ∧ i + 1 < s.length ∧ s.getD (i + 1) 0 = 45 := ⟨hp.2.1, hp.1, hp.2.2⟩
        have hx := cmt_idx (s.drop i)
        have hz := idx_pos (s := s) (i := i) (by omega) (by rw [hp.1]; decide)
        have hl : (s.drop i).length = s.length - i := List.length_drop
        refine tri_seq ?_
        refine tri_slots [(0, _), (1, _)] (.cons rfl (.cons rfl (.nil _))) ?_
        refine tri_region ?_
        refine o_move rfl rfl ?_
        refine o_move rfl rfl ?_
        refine o_sliceBl Tryz.underlying9 rfl rfl rfl (by omega) (by omega) ?_
        refine o_callP (first := []) (cap := []) rfl rfl rfl Tryz.call26 (fun w1 h1 => lib_index (s.drop i) w1) ?_
        refine o_assign rfl rfl ?_
        refine triL_nil ?_
        refine thenQ_normal ?_
        refine tri_seq ?_
        refine tri_seq ?_
        refine tri_slots [(6, _), (0, _), (1, _)] (.cons rfl (.cons rfl (.cons rfl (.nil _)))) ?_
        refine tri_region ?_
        refine o_move rfl rfl ?_
        refine o_lss rfl rfl rfl ?_
        refine triL_nil ?_
        refine thenQ_normal ?_
        refine tri_if rfl (fun h3 => ?_) (fun h3 => ?_)
        · skip
          have hq := hx.resolve_right (fun ⟨k, hk1, _⟩ => by have h3 : Lib.indexByte (s.drop i) 10 < 0 := h3; omega)
          refine tri_seq ?_
          refine tri_slots [(0, _)] (.cons rfl (.nil _)) ?_
          refine tri_region ?_
          refine o_move rfl rfl ?_
          refine o_lenB Tryz.underlying9 rfl rfl ?_
          refine o_assign rfl rfl ?_
          refine triL_nil ?_
          refine thenQ_normal ?_
          refine tri_ret ?_
          refine thenQ_ret ?_
          refine blockQ_ret ?_
          refine blockQ_ret ?_
          refine thenQ_ret ?_
          refine blockQ_ret ?_
          refine thenQ_ret ?_
          refine end1 rfl rfl ?_
          exact fun w1 hw1 => ⟨congrArg (fun b => Ending.returned (.int .i64 b)) (by rw [hi.2, gap_cmt (by omega) hp, hq.2, hl]; omega), hw1.chg⟩
        · skip
          obtain ⟨k, hk1, hk2, hk3⟩ := hx.resolve_left (fun hk1 => by have h3 : ¬ Lib.indexByte (s.drop i) 10 < 0 := h3; omega)
          have ek : Value.int .i64 (Lib.indexByte (s.drop i) 10) = .int .i64 (k : Int) := congrArg _ hk1
          rw [ek]
          have hkp : 0 < k := by omega
          refine tri_skip ?_
          refine thenQ_normal ?_
          refine tri_region ?_
          refine o_move rfl rfl ?_
          refine o_move rfl rfl ?_
          refine o_addN rfl rfl rfl (by omega) ?_
          refine o_assign rfl rfl ?_
          refine triL_nil ?_
          refine blockQ_normal ?_
          refine blockQ_normal ?_
          refine thenQ_normal ?_
          exact ⟨i + k, (.cons rfl (.cons rfl (.nil _))), fun _ h => h, ⟨by omega, by rw [hi.2, gap_cmt (by omega) hp, hk3, List.drop_drop]; omega⟩, by omega⟩
      · skip
        have hp : ([45, 45] : List UInt8).isPrefixOf (s.drop i) = false := hp
        have e := gap_no (s := s) (i := i) (by omega) hb (fun q => by rw [prefix_dash, q.1, q.2.2, decide_eq_true q.2.1] at hp; cases hp)
        refine tri_seq ?_
        refine tri_slots [(1, _)] (.cons rfl (.nil _)) ?_
        refine tri_region ?_
        refine o_move rfl rfl ?_
        refine o_assign rfl rfl ?_
        refine triL_nil ?_
        refine thenQ_normal ?_
        refine tri_ret ?_
        refine blockQ_ret ?_
        refine blockQ_ret ?_
        refine thenQ_ret ?_
        refine blockQ_ret ?_
        refine thenQ_ret ?_
        refine end1 rfl rfl ?_
        exact fun w1 hw1 => ⟨congrArg (fun b => Ending.returned (.int .i64 b)) (by rw [hi.2, e]; rfl), hw1.chg⟩
  · skip
    refine tri_exit ?_
    refine thenQ_exit ?_
    refine thenQ_exit ?_
    refine blockQ_here ?_
    refine thenQ_normal ?_
    refine tri_seq ?_
    refine tri_slots [(1, _)] (.cons rfl (.nil _)) ?_
    refine tri_region ?_
    refine o_move rfl rfl ?_
    refine o_assign rfl rfl ?_
    refine triL_nil ?_
    refine thenQ_normal ?_
    refine tri_ret ?_
    refine end1 rfl rfl ?_
    exact fun w1 hw1 => ⟨congrArg (fun b => Ending.returned (.int .i64 b)) (by rw [hi.2, List.drop_eq_nil_of_le (by omega)]; rfl), hw1.chg⟩

theorem peekK (s : List UInt8) (a k b4 b1 : Nat) (w : World) (h4 : Rd w (some ⟨b4, 0, none⟩) [.int .i64 (a : Int)]) (h1 : Rd w (some ⟨b1, 0, none⟩) [.string (B s)]) (hs : s.length ≤ 140737488355328) (ha : a ≤ 140737488355328) (hk : k ≤ 1) : Calls Tryz.prog 10 #[.int .i64 (k : Int), .pointer (some ⟨b4, 0, none⟩), .pointer (some ⟨b1, 0, none⟩)] w (Pure w (byteV (s.getD (a + k) 0))) := by
  refine calls_tri (args := [.int .i64 (k : Int), .pointer (some ⟨b4, 0, none⟩), .pointer (some ⟨b1, 0, none⟩)]) (lent := []) (H := []) Tryz.func10 rfl Tryz.ntmps10 rfl (Sat.start _ _ _ _) ?_
  refine (show Tri _ [(0, _), (1, _), (2, _)] _ _ _ from ?_)
  have hR4 : ∀ cx H, cx.w0 = w → cx.lent = [] → RdS cx H (some ⟨b4, 0, none⟩) [.int .i64 (a : Int)] := fun cx H q1 q2 => RdS.arg (by rw [q1]; exact h4) q2
  have hR1 : ∀ cx H, cx.w0 = w → cx.lent = [] → RdS cx H (some ⟨b1, 0, none⟩) [.string (B s)] := fun cx H q1 q2 => RdS.arg (by rw [q1]; exact h1) q2
  refine tri_seq ?_
  refine tri_region ?_
  refine o_assign rfl rfl ?_
  refine triL_nil ?_
  refine thenQ_normal ?_
  refine tri_seq ?_
  refine tri_seq ?_
  refine tri_region ?_
  refine o_loadR (A := some ⟨b4, 0, none⟩) (kk := 0) agg3 rfl rfl (hR4 _ _ rfl rfl) rfl ?_
  refine o_move rfl rfl ?_
  refine o_addN rfl rfl rfl (by omega) ?_
  refine o_loadR (A := some ⟨b1, 0, none⟩) (kk := 0) agg9 rfl rfl (hR1 _ _ rfl rfl) rfl ?_
  refine o_lenB Tryz.underlying9 rfl rfl ?_
  refine o_lss rfl rfl rfl ?_
  refine triL_nil ?_
  refine thenQ_normal ?_
  refine tri_if rfl (fun h0 => ?_) (fun h0 => ?_)
  · skip
    refine tri_seq ?_
    refine tri_slots [(0, _), (1, _), (2, _)] (.cons rfl (.cons rfl (.cons rfl (.nil _)))) ?_
    refine tri_region ?_
    refine o_loadR (A := some ⟨b1, 0, none⟩) (kk := 0) agg9 rfl rfl (hR1 _ _ rfl rfl) rfl ?_
    refine o_loadR (A := some ⟨b4, 0, none⟩) (kk := 0) agg3 rfl rfl (hR4 _ _ rfl rfl) rfl ?_
    refine o_move rfl rfl ?_
    refine o_addN rfl rfl rfl (by omega) ?_
    refine o_idxB Tryz.underlying9 rfl rfl rfl (by omega) (by omega) ?_
    refine o_assign rfl rfl ?_
    refine triL_nil ?_
    refine thenQ_normal ?_
    refine tri_ret ?_
    refine thenQ_ret ?_
    refine end1 rfl rfl ?_
    exact fun w1 hw1 => ⟨rfl, hw1.chg⟩
  · skip
    refine tri_skip ?_
    refine thenQ_normal ?_
    refine tri_seq ?_
    refine tri_slots [] (.nil _) ?_
    refine tri_region ?_
    refine o_assign rfl rfl ?_
    refine triL_nil ?_
    refine thenQ_normal ?_
    refine tri_ret ?_
    refine end1 rfl rfl ?_
    have e : s.getD (a + k) 0 = 0 := by
      rw [List.getD_eq_getElem?_getD, List.getElem?_eq_none (by omega)]; rfl
    exact fun w1 hw1 => ⟨by rw [e]; rfl, hw1.chg⟩

theorem numberK (s : List UInt8) (w : World) (hs : s.length ≤ 140737488355328) (hd : isDig (s.getD 0 0) = true) (hE : LE w) : Calls Tryz.prog 17 #[.string (B s)] w (Pure w (.tuple #[.int .i64 ((runL isDig s : Nat) : Int), .int .i64 (if numBad s (runL isDig s) then 180 else 0)])) := by
  refine calls_tri (args := [.string (B s)]) (lent := []) (H := []) Tryz.func17 rfl Tryz.ntmps17 rfl (Sat.start _ _ _ _) ?_
  refine (show Tri _ [(0, _)] _ _ _ from ?_)
  have hn2 := run_le isDig s
  have hl0 : 0 < s.length := by
    cases s with
    | nil => exact absurd hd (by decide)
    | cons => simp
  have hn1 : 0 < runL isDig s := by
    have e := run_step isDig s 0 hl0
    rw [if_pos hd, List.drop_zero] at e
    omega
  refine tri_seq ?_
  refine tri_region ?_
  refine o_assign rfl rfl ?_
  refine o_assign rfl rfl ?_
  refine triL_nil ?_
  refine thenQ_normal ?_
  refine tri_seq ?_
  refine tri_region ?_
  refine o_move rfl rfl ?_
  refine o_callP (v := .int .i64 ((runL isDig s : Nat) : Int)) (first := []) (cap := []) rfl rfl rfl Tryz.call13 (fun w1 h1 => runK s 15 isDigZ w1 (by omega) Tryz.call15 (fun z w => digitK z w)) ?_
  refine o_assign rfl rfl ?_
  refine triL_nil ?_
  refine thenQ_normal ?_
  refine tri_seq ?_
  refine tri_slots [(4, _), (0, _)] (.cons rfl (.cons rfl (.nil _))) ?_
  refine tri_region ?_
  refine o_move rfl rfl ?_
  refine o_move rfl rfl ?_
  refine o_sliceBh Tryz.underlying9 rfl rfl rfl (by omega) (by omega) ?_
  refine o_call (J := Int × Value) (first := []) (cap := []) (fun j => .tuple #[.int .i64 j.1, j.2]) (fun _ => _) (fun j => ErrIs (parses (s.take (runL isDig s))) j.2) rfl rfl rfl Tryz.call33 (fun w1 h1 => (lib_num (s.take (runL isDig s)) w1 (by rw [List.length_take]; omega) (hE.chg h1.chg)).mono fun e w2 ⟨j, hp, he, hc⟩ => ⟨j, hp, he, h1.ext hc⟩) (fun j hj => ?_)
  refine o_move rfl rfl ?_
  refine o_extract rfl rfl rfl ?_
  refine o_extract rfl rfl rfl ?_
  refine o_assign rfl rfl ?_
  refine o_assign rfl rfl ?_
  refine triL_nil ?_
  refine thenQ_normal ?_
  refine tri_seq ?_
  refine tri_seq ?_
  refine tri_slots [(6, _), (4, _), (0, _)] (.cons rfl (.cons rfl (.cons rfl (.nil _)))) ?_
  refine tri_region ?_
  refine o_move rfl rfl ?_
  refine o_neqErr ifE hj rfl rfl ?_
  refine o_move rfl rfl ?_
  refine' triL_or [_, _, _, _, _, _, _] [(4, _), (0, _)] (dj := 18) (dr := 25) rfl rfl (fun g1 => ?_) ⟨_, rfl, rfl, rfl, (.cons rfl (.cons rfl (.nil _)))⟩ rfl ?_
  rotate_left
  · skip
    refine o_move rfl rfl ?_
    refine o_gtr rfl rfl rfl ?_
    refine o_move rfl rfl ?_
    refine' triL_and [_, _, _] [(18, _), (4, _), (0, _)] (dj := 21) (dr := 24) rfl rfl (fun g2 => ?_) ⟨_, rfl, rfl, rfl, (.cons rfl (.cons rfl (.cons rfl (.nil _))))⟩ rfl ?_
    rotate_left
    · skip
      refine o_move rfl rfl ?_
      refine o_idxB Tryz.underlying9 rfl rfl rfl (by omega) (by omega) ?_
      refine o_eqlU8 _ 48 rfl rfl rfl ?_
      exact triL_nil (Piece.mk rfl rfl (.cons rfl (.cons rfl (.cons rfl (.nil _)))) (fun _ h => h))
    exact triL_nil (Piece.mk rfl rfl (.cons rfl (.cons rfl (.nil _))) (fun _ h => h))
  refine o_move rfl rfl ?_
  refine' triL_or [_, _, _, _, _, _, _, _, _, _] [(4, _)] (dj := 27) (dr := 37) rfl rfl (fun g3 => ?_) ⟨_, rfl, rfl, rfl, (.cons rfl (.nil _))⟩ rfl ?_
  rotate_left
  · skip
    refine o_move rfl rfl ?_
    refine o_move rfl rfl ?_
    refine o_lenB Tryz.underlying9 rfl rfl ?_
    refine o_lss rfl rfl rfl ?_
    refine o_move rfl rfl ?_
    refine' triL_and [_, _, _, _] [(27, _), (4, _)] (dj := 32) (dr := 36) rfl rfl (fun g4 => ?_) ⟨_, rfl, rfl, rfl, (.cons rfl (.cons rfl (.nil _)))⟩ rfl ?_
    rotate_left
    · skip
      have g4 := of_decide_eq_true g4
      refine o_move rfl rfl ?_
      refine o_move rfl rfl ?_
      refine o_idxB Tryz.underlying9 rfl rfl rfl (by omega) (by omega) ?_
      refine o_callP (first := []) (cap := []) rfl rfl rfl Tryz.call12 (fun w_ hw_ => letterK _ w_) ?_
      exact triL_nil (Piece.mk rfl rfl (.cons rfl (.cons rfl (.nil _))) (fun _ h => h))
    exact triL_nil (Piece.mk rfl rfl (.cons rfl (.nil _)) (fun _ h => h))
  refine triL_nil ?_
  refine thenQ_normal ?_
  refine tri_cond rfl (fun h1 => ?_) (fun h1 => ?_)
  · skip
    have h1 := Eq.trans (Eq.symm (numBad_test hd _ _ (by congr 1; exact decide_eq_decide.2 (by omega)) (by congr 1; exact decide_eq_decide.2 (by omega)))) h1
    have h1 := of_decide_eq_true h1
    refine tri_seq ?_
    refine tri_region ?_
    refine o_move rfl rfl ?_
    refine o_assign rfl rfl ?_
    refine o_assign rfl rfl ?_
    refine triL_nil ?_
    refine thenQ_normal ?_
    refine tri_ret ?_
    refine thenQ_ret ?_
    refine end2 rfl rfl rfl ?_
    exact fun w1 hw1 => ⟨by rw [if_pos h1], hw1.chg⟩
  · skip
    have h1 := Eq.trans (Eq.symm (numBad_test hd _ _ (by congr 1; exact decide_eq_decide.2 (by omega)) (by congr 1; exact decide_eq_decide.2 (by omega)))) h1
    have h1 := of_decide_eq_false h1
    refine tri_skip ?_
    refine thenQ_normal ?_
    refine tri_seq ?_
    refine tri_region ?_
    refine o_move rfl rfl ?_
    refine o_assign rfl rfl ?_
    refine o_assign rfl rfl ?_
    refine triL_nil ?_
    refine thenQ_normal ?_
    refine tri_ret ?_
    refine end2 rfl rfl rfl ?_
    exact fun w1 hw1 => ⟨by rw [if_neg h1], hw1.chg⟩

theorem quotedK (s : List UInt8) (w : World) (hs : s.length ≤ 140737488355328) (h1 : 1 ≤ s.length) : Calls Tryz.prog 18 #[.string (B s)] w (Pure w (.tuple #[.string (B (quoR s).1), .int .i64 ((quoR s).2.1 : Int), .int .i64 (quoR s).2.2])) := by
  refine calls_tri (args := [.string (B s)]) (lent := []) (H := []) Tryz.func18 rfl Tryz.ntmps18 rfl (Sat.start _ _ _ _) ?_
  refine (show Tri _ [(0, _)] _ _ _ from ?_)
  refine tri_seq ?_
  refine tri_region ?_
  refine o_assign rfl rfl ?_
  refine o_assign rfl rfl ?_
  refine o_assign rfl rfl ?_
  refine triL_nil ?_
  refine thenQ_normal ?_
  refine tri_scope ?_
  refine tri_seq ?_
  refine tri_region ?_
  refine o_assign rfl rfl ?_
  refine triL_nil ?_
  refine thenQ_normal ?_
  refine tri_seq ?_
  refine tri_region ?_
  refine o_assign rfl rfl ?_
  refine triL_nil ?_
  refine thenQ_normal ?_
  refine tri_seq ?_
  refine tri_label ?_
  refine thenQ_normal ?_
  refine tri_seq ?_
  refine tri_block ?_
  refine tri_loop (ι := List UInt8 × Nat × Option Addr × Nat) (F := fun q => [(0, .string (B s)), (5, .slice q.2.2.1 q.1.length q.2.2.2), (6, .int .i64 (q.2.1 : Int))]) (HH := fun q => [row (.slice q.2.2.1 q.1.length q.2.2.2) 5 1 q.1.length (bytesV q.1)]) (Pu := fun q => quoInv s q.1 q.2.1) (μ := fun q => s.length - q.2.1) (([], 1, none, 0)) (.cons rfl (.cons rfl (.cons rfl (.nil _)))) (fun _ h => h.nilRow _ _) (quoInv_zero h1) (fun q hi => ?_)
  have hi2 := hi.2.1
  have hi3 := hi.2.2.1
  refine tri_block ?_
  refine tri_seq ?_
  refine tri_block ?_
  refine tri_seq ?_
  refine tri_region ?_
  refine o_move rfl rfl ?_
  refine o_move rfl rfl ?_
  refine o_lenB Tryz.underlying9 rfl rfl ?_
  refine o_eqlI rfl rfl rfl ?_
  refine o_assign rfl rfl ?_
  refine triL_nil ?_
  refine thenQ_normal ?_
  refine tri_if rfl (fun h0 => ?_) (fun h0 => ?_)
  · skip
    refine tri_seq ?_
    refine tri_slots [] (.nil _) ?_
    refine tri_region ?_
    refine o_assign rfl rfl ?_
    refine o_assign rfl rfl ?_
    refine o_assign rfl rfl ?_
    refine triL_nil ?_
    refine thenQ_normal ?_
    refine tri_ret ?_
    refine blockQ_ret ?_
    refine thenQ_ret ?_
    refine blockQ_ret ?_
    refine thenQ_ret ?_
    refine blockQ_ret ?_
    refine thenQ_ret ?_
    refine scopeQ_ret ?_
    refine end3 rfl rfl rfl rfl ?_
    have e : quoR s = ([], 0, 180) := (by rw [quoR, quoInv_none hi (by omega)])
    exact fun w1 hw1 => ⟨by rw [e]; rfl, hw1.chg⟩
  · skip
    refine tri_seq ?_
    refine tri_slots [(0, _), (5, _), (6, _)] (.cons rfl (.cons rfl (.cons rfl (.nil _)))) ?_
    refine tri_region ?_
    refine o_move rfl rfl ?_
    refine o_move rfl rfl ?_
    refine o_idxB Tryz.underlying9 rfl rfl rfl (by omega) (by omega) ?_
    refine o_neqU8 _ 39 rfl rfl rfl ?_
    refine o_assign rfl rfl ?_
    refine triL_nil ?_
    refine thenQ_normal ?_
    refine tri_if rfl (fun g1 => ?_) (fun g1 => ?_)
    · skip
      have g1 : s.getD q.2.1 0 ≠ 39 := g1
      refine tri_skip ?_
      refine blockQ_normal ?_
      refine thenQ_normal ?_
      refine tri_seq ?_
      refine tri_slots [(0, _), (5, _), (6, _)] (.cons rfl (.cons rfl (.cons rfl (.nil _)))) ?_
      refine tri_region ?_
      refine o_move rfl rfl ?_
      refine o_move rfl rfl ?_
      refine o_move rfl rfl ?_
      refine o_idxB Tryz.underlying9 rfl rfl rfl (by omega) (by omega) ?_
      refine o_lit1 (vs := bytesV [_]) Tryz.underlying57 zs5 rfl rfl rfl rfl rfl (by decide) (by decide) (fun b36 => ?_)
      refine o_append Tryz.underlying57 zsb5 rfl (by decide) (by first | exact Nth.z | exact .s .z | exact .s (.s .z) | exact .s (.s (.s .z)) | exact .s (.s (.s (.s .z))) | exact .s (.s (.s (.s (.s .z)))) | exact .s (.s (.s (.s (.s (.s .z))))) | exact .s (.s (.s (.s (.s (.s (.s .z))))))) rfl rfl rfl (news := bytesV [_]) (RdS.row .z) rfl (bytesV_one _) (by unfold maxLen; omega) (by omega) (fun A37 c37 => ?_)
      refine o_assign rfl rfl ?_
      refine triL_nil ?_
      refine thenQ_normal ?_
      refine tri_slots [(5, _), (0, _), (6, _)] (.cons rfl (.cons rfl (.cons rfl (.nil _)))) ?_
      refine tri_region ?_
      refine o_move rfl rfl ?_
      refine o_addN rfl rfl rfl (by omega) ?_
      refine o_assign rfl rfl ?_
      refine triL_nil ?_
      refine blockQ_normal ?_
      refine thenQ_normal ?_
      exact ⟨(q.1 ++ [s.getD q.2.1 0], q.2.1 + 1, A37, c37), (.cons rfl (.cons (congrArg (fun k : Nat => some (Value.slice A37 k c37)) (by simp)) (.cons rfl (.nil _)))), (fun w1 hw1 => by simp only [List.length_append, bytesV_append]; exact hw1.tail), quoInv_one hi (by omega) g1, (by simp only; omega)⟩
    · skip
      have g1 : s.getD q.2.1 0 = 39 := Decidable.not_not.1 g1
      refine tri_seq ?_
      refine tri_slots [(0, _), (5, _), (6, _)] (.cons rfl (.cons rfl (.cons rfl (.nil _)))) ?_
      refine tri_region ?_
      refine o_move rfl rfl ?_
      refine o_addN rfl rfl rfl (by omega) ?_
      refine o_move rfl rfl ?_
      refine o_lenB Tryz.underlying9 rfl rfl ?_
      refine o_lss rfl rfl rfl ?_
      refine o_move rfl rfl ?_
      refine' triL_and [_, _, _, _, _] [(0, _), (5, _), (6, _)] (dj := 23) (dr := 28) rfl rfl (fun g1 => ?_) ⟨_, rfl, rfl, rfl, (.cons rfl (.cons rfl (.cons rfl (.nil _))))⟩ rfl ?_
      rotate_left
      · skip
        have g1 := of_decide_eq_true g1
        refine o_move rfl rfl ?_
        refine o_move rfl rfl ?_
        refine o_addN rfl rfl rfl (by omega) ?_
        refine o_idxB Tryz.underlying9 rfl rfl rfl (by omega) (by omega) ?_
        refine o_eqlU8 _ 39 rfl rfl rfl ?_
        exact triL_nil (Piece.mk rfl rfl (.cons rfl (.cons rfl (.cons rfl (.nil _)))) (fun _ h => h))
      refine o_assign rfl rfl ?_
      refine triL_nil ?_
      refine thenQ_normal ?_
      refine tri_cond rfl (fun g2 => ?_) (fun g2 => ?_)
      · skip
        have g2 : q.2.1 + 1 < s.length ∧ s.getD (q.2.1 + 1) 0 = 39 := by simp only [Bool.and_eq_true, decide_eq_true_eq] at g2; exact ⟨by omega, g2.2⟩
        refine tri_region ?_
        refine o_move rfl rfl ?_
        refine o_addN rfl rfl rfl (by omega) ?_
        refine o_assign rfl rfl ?_
        refine triL_nil ?_
        refine blockQ_normal ?_
        refine thenQ_normal ?_
        refine tri_seq ?_
        refine tri_slots [(6, _), (0, _), (5, _)] (.cons rfl (.cons rfl (.cons rfl (.nil _)))) ?_
        refine tri_region ?_
        refine o_move rfl rfl ?_
        refine o_move rfl rfl ?_
        refine o_move rfl rfl ?_
        refine o_idxB Tryz.underlying9 rfl rfl rfl (by omega) (by omega) ?_
        refine o_lit1 (vs := bytesV [_]) Tryz.underlying57 zs5 rfl rfl rfl rfl rfl (by decide) (by decide) (fun b36 => ?_)
        refine o_append Tryz.underlying57 zsb5 rfl (by decide) (by first | exact Nth.z | exact .s .z | exact .s (.s .z) | exact .s (.s (.s .z)) | exact .s (.s (.s (.s .z))) | exact .s (.s (.s (.s (.s .z)))) | exact .s (.s (.s (.s (.s (.s .z))))) | exact .s (.s (.s (.s (.s (.s (.s .z))))))) rfl rfl rfl (news := bytesV [_]) (RdS.row .z) rfl (bytesV_one _) (by unfold maxLen; omega) (by omega) (fun A37 c37 => ?_)
        refine o_assign rfl rfl ?_
        refine triL_nil ?_
        refine thenQ_normal ?_
        refine tri_slots [(5, _), (6, _), (0, _)] (.cons rfl (.cons rfl (.cons rfl (.nil _)))) ?_
        refine tri_region ?_
        refine o_move rfl rfl ?_
        refine o_addN rfl rfl rfl (by omega) ?_
        refine o_assign rfl rfl ?_
        refine triL_nil ?_
        refine blockQ_normal ?_
        refine thenQ_normal ?_
        exact ⟨(q.1 ++ [s.getD (q.2.1 + 1) 0], q.2.1 + 2, A37, c37), (.cons rfl (.cons (congrArg (fun k : Nat => some (Value.slice A37 k c37)) (by simp)) (.cons rfl (.nil _)))), (fun w1 hw1 => by simp only [List.length_append, bytesV_append]; exact hw1.tail), quoInv_two hi g2.1 g1 g2.2, (by simp only; omega)⟩
      · skip
        have g2 : ¬ (q.2.1 + 1 < s.length ∧ s.getD (q.2.1 + 1) 0 = 39) := fun e => Bool.eq_false_iff.1 g2 (by simp only [Bool.and_eq_true, decide_eq_true_eq]; exact ⟨by omega, e.2⟩)
        have eq := quoInv_some hi (by omega) g1 g2
        refine tri_exit ?_
        refine blockQ_other rfl ?_
        refine thenQ_exit ?_
        refine blockQ_other rfl ?_
        refine thenQ_exit ?_
        refine blockQ_here ?_
        refine thenQ_normal ?_
        refine tri_seq ?_
        refine tri_seq ?_
        refine tri_region ?_
        refine o_move rfl rfl ?_
        refine o_lenS Tryz.underlying57 rfl rfl ?_
        refine o_gtr rfl rfl rfl ?_
        refine triL_nil ?_
        refine thenQ_normal ?_
        refine tri_if rfl (fun h3 => ?_) (fun h3 => ?_)
        · skip
          refine tri_seq ?_
          refine tri_slots [] (.nil _) ?_
          refine tri_region ?_
          refine o_assign rfl rfl ?_
          refine o_assign rfl rfl ?_
          refine o_assign rfl rfl ?_
          refine triL_nil ?_
          refine thenQ_normal ?_
          refine tri_ret ?_
          refine thenQ_ret ?_
          refine scopeQ_ret ?_
          refine end3 rfl rfl rfl rfl ?_
          have e : quoR s = ([], 0, 3) := (by rw [quoR, eq]; exact if_pos (by simp only; omega))
          exact fun w1 hw1 => ⟨by rw [e]; rfl, hw1.chg⟩
        · skip
          refine tri_skip ?_
          refine thenQ_normal ?_
          refine tri_seq ?_
          refine tri_slots [(5, _), (6, _)] (.cons rfl (.cons rfl (.nil _))) ?_
          refine tri_region ?_
          refine o_move rfl rfl ?_
          refine o_toText Tryz.underlying57 Tryz.underlying5 Tryz.underlying9 rfl rfl (RdS.row .z) rfl ?_
          refine o_move rfl rfl ?_
          refine o_addN rfl rfl rfl (by omega) ?_
          refine o_assign rfl rfl ?_
          refine o_assign rfl rfl ?_
          refine o_assign rfl rfl ?_
          refine triL_nil ?_
          refine thenQ_normal ?_
          refine tri_ret ?_
          refine scopeQ_ret ?_
          refine end3 rfl rfl rfl rfl ?_
          have e : quoR s = (q.1, q.2.1 + 1, 0) := (by rw [quoR, eq]; exact if_neg (by simp only; omega))
          exact fun w1 hw1 => ⟨by rw [e]; rfl, hw1.chg⟩

def wds0 : List (List UInt8) := [[97, 110, 100], [97, 115], [98, 101, 103, 105, 110], [98, 111, 111, 108], [98, 121], [99, 111, 109, 109, 105, 116], [99, 114, 101, 97, 116, 101], [100, 101, 108, 101, 116, 101], [100, 101, 115, 99], [100, 105, 115, 116, 105, 110, 99, 116], [100, 114, 111, 112]]
def wds1 : List (List UInt8) := [[102, 97, 108, 115, 101], [102, 114, 111, 109], [105, 110, 100, 101, 120], [105, 110, 115, 101, 114, 116], [105, 110, 116], [105, 110, 116, 111], [105, 115], [106, 111, 105, 110], [108, 105, 109, 105, 116], [110, 111, 116], [110, 117, 108, 108]]
def wds2 : List (List UInt8) := [[111, 110], [111, 114], [111, 114, 100, 101, 114], [114, 111, 108, 108, 98, 97, 99, 107], [115, 101, 108, 101, 99, 116], [115, 101, 116], [116, 97, 98, 108, 101], [116, 101, 120, 116], [116, 114, 117, 101], [117, 110, 105, 113, 117, 101], [117, 112, 100, 97, 116, 101], [118, 97, 108, 117, 101, 115], [119, 104, 101, 114, 101]]
def wds : List (List UInt8) := wds0 ++ (wds1 ++ wds2)

theorem wordK (s : List UInt8) (w : World)  : Calls Tryz.prog 24 #[.string (B s)] w (Pure w (.bool (decide (s ∈ wds)))) := by
  refine calls_tri (args := [.string (B s)]) (lent := []) (H := []) Tryz.func24 rfl Tryz.ntmps24 rfl (Sat.start _ _ _ _) ?_
  refine (show Tri _ [(0, _)] _ _ _ from ?_)
  refine tri_seq ?_
  refine tri_region ?_
  refine o_assign rfl rfl ?_
  refine triL_nil ?_
  refine thenQ_normal ?_
  refine tri_seq ?_
  refine tri_seq ?_
  refine tri_region ?_
  refine o_move rfl rfl ?_
  refine triL_nil ?_
  refine thenQ_normal ?_
  refine tri_block ?_
  refine tri_seq ?_
  refine tri_block ?_
  refine tri_block ?_
  refine tri_block ?_
  refine tri_seq ?_
  refine tri_seq ?_
  refine tri_join (ι := Bool) (fun j => [(3, .string (B s)), (4, .bool j)]) (fun j => []) (fun j => j = decide (s ∈ wds0)) ?_ (fun j hj => ?_)
  · skip
    refine tri_seq ?_
    refine tri_region ?_
    refine o_eqlT rfl rfl rfl ?_
    refine o_assign rfl rfl ?_
    refine triL_nil ?_
    refine thenQ_normal ?_
    refine tri_if rfl (fun g0 => ?_) (fun g0 => ?_)
    · skip
      refine tri_skip ?_
      refine thenQ_normal ?_
      exact ⟨true, (.cons rfl (.cons (congrArg (fun b => some (Value.bool b)) (decide_eq_true g0)) (.nil _))), fun _ h => h, (by rw [g0]; decide)⟩
    · skip
      refine tri_seq ?_
      refine tri_slots [(3, _)] (.cons rfl (.nil _)) ?_
      refine tri_region ?_
      refine o_eqlT rfl rfl rfl ?_
      refine o_assign rfl rfl ?_
      refine triL_nil ?_
      refine thenQ_normal ?_
      refine tri_if rfl (fun g1 => ?_) (fun g1 => ?_)
      · skip
        refine tri_skip ?_
        refine thenQ_normal ?_
        exact ⟨true, (.cons rfl (.cons (congrArg (fun b => some (Value.bool b)) (decide_eq_true g1)) (.nil _))), fun _ h => h, (by rw [g1]; decide)⟩
      · skip
        refine tri_seq ?_
        refine tri_region ?_
        refine o_eqlT rfl rfl rfl ?_
        refine o_assign rfl rfl ?_
        refine triL_nil ?_
        refine thenQ_normal ?_
        refine tri_if rfl (fun g2 => ?_) (fun g2 => ?_)
        · skip
          refine tri_skip ?_
          refine thenQ_normal ?_
          exact ⟨true, (.cons rfl (.cons (congrArg (fun b => some (Value.bool b)) (decide_eq_true g2)) (.nil _))), fun _ h => h, (by rw [g2]; decide)⟩
        · skip
          refine tri_seq ?_
          refine tri_region ?_
          refine o_eqlT rfl rfl rfl ?_
          refine o_assign rfl rfl ?_
          refine triL_nil ?_
          refine thenQ_normal ?_
          refine tri_if rfl (fun g3 => ?_) (fun g3 => ?_)
          · skip
            refine tri_skip ?_
            refine thenQ_normal ?_
            exact ⟨true, (.cons rfl (.cons (congrArg (fun b => some (Value.bool b)) (decide_eq_true g3)) (.nil _))), fun _ h => h, (by rw [g3]; decide)⟩
          · skip
            refine tri_seq ?_
            refine tri_slots [(3, _)] (.cons rfl (.nil _)) ?_
            refine tri_region ?_
            refine o_eqlT rfl rfl rfl ?_
            refine o_assign rfl rfl ?_
            refine triL_nil ?_
            refine thenQ_normal ?_
            refine tri_if rfl (fun g4 => ?_) (fun g4 => ?_)
            · skip
              refine tri_skip ?_
              refine thenQ_normal ?_
              exact ⟨true, (.cons rfl (.cons (congrArg (fun b => some (Value.bool b)) (decide_eq_true g4)) (.nil _))), fun _ h => h, (by rw [g4]; decide)⟩
            · skip
              refine tri_seq ?_
              refine tri_region ?_
              refine o_eqlT rfl rfl rfl ?_
              refine o_assign rfl rfl ?_
              refine triL_nil ?_
              refine thenQ_normal ?_
              refine tri_if rfl (fun g5 => ?_) (fun g5 => ?_)
              · skip
                refine tri_skip ?_
                refine thenQ_normal ?_
                exact ⟨true, (.cons rfl (.cons (congrArg (fun b => some (Value.bool b)) (decide_eq_true g5)) (.nil _))), fun _ h => h, (by rw [g5]; decide)⟩
              · skip
                refine tri_seq ?_
                refine tri_region ?_
                refine o_eqlT rfl rfl rfl ?_
                refine o_assign rfl rfl ?_
                refine triL_nil ?_
                refine thenQ_normal ?_
                refine tri_if rfl (fun g6 => ?_) (fun g6 => ?_)
                · skip
                  refine tri_skip ?_
                  refine thenQ_normal ?_
                  exact ⟨true, (.cons rfl (.cons (congrArg (fun b => some (Value.bool b)) (decide_eq_true g6)) (.nil _))), fun _ h => h, (by rw [g6]; decide)⟩
                · skip
                  refine tri_seq ?_
                  refine tri_slots [(3, _)] (.cons rfl (.nil _)) ?_
                  refine tri_region ?_
                  refine o_eqlT rfl rfl rfl ?_
                  refine o_assign rfl rfl ?_
                  refine triL_nil ?_
                  refine thenQ_normal ?_
                  refine tri_if rfl (fun g7 => ?_) (fun g7 => ?_)
                  · skip
                    refine tri_skip ?_
                    refine thenQ_normal ?_
                    exact ⟨true, (.cons rfl (.cons (congrArg (fun b => some (Value.bool b)) (decide_eq_true g7)) (.nil _))), fun _ h => h, (by rw [g7]; decide)⟩
                  · skip
                    refine tri_seq ?_
                    refine tri_region ?_
                    refine o_eqlT rfl rfl rfl ?_
                    refine o_assign rfl rfl ?_
                    refine triL_nil ?_
                    refine thenQ_normal ?_
                    refine tri_if rfl (fun g8 => ?_) (fun g8 => ?_)
                    · skip
                      refine tri_skip ?_
                      refine thenQ_normal ?_
                      exact ⟨true, (.cons rfl (.cons (congrArg (fun b => some (Value.bool b)) (decide_eq_true g8)) (.nil _))), fun _ h => h, (by rw [g8]; decide)⟩
                    · skip
                      refine tri_seq ?_
                      refine tri_region ?_
                      refine o_eqlT rfl rfl rfl ?_
                      refine o_assign rfl rfl ?_
                      refine triL_nil ?_
                      refine thenQ_normal ?_
                      refine tri_if rfl (fun g9 => ?_) (fun g9 => ?_)
                      · skip
                        refine tri_skip ?_
                        refine thenQ_normal ?_
                        exact ⟨true, (.cons rfl (.cons (congrArg (fun b => some (Value.bool b)) (decide_eq_true g9)) (.nil _))), fun _ h => h, (by rw [g9]; decide)⟩
                      · skip
                        refine tri_slots [(3, _)] (.cons rfl (.nil _)) ?_
                        refine tri_region ?_
                        refine o_eqlT rfl rfl rfl ?_
                        refine o_assign rfl rfl ?_
                        refine triL_nil ?_
                        refine thenQ_normal ?_
                        exact ⟨decide (s = [100, 114, 111, 112]), (.cons rfl (.cons rfl (.nil _))), fun _ h => h, (by simp [wds0, *])⟩
  refine tri_cond rfl (fun k0 => ?_) (fun k0 => ?_)
  · skip
    have k0 := of_decide_eq_true (hj.symm.trans k0)
    refine tri_exit ?_
    refine thenQ_exit ?_
    refine thenQ_exit ?_
    refine blockQ_here ?_
    refine blockQ_normal ?_
    refine blockQ_normal ?_
    refine thenQ_normal ?_
    refine tri_seq ?_
    refine tri_seq ?_
    refine tri_region ?_
    refine o_assign rfl rfl ?_
    refine triL_nil ?_
    refine thenQ_normal ?_
    refine tri_ret ?_
    refine thenQ_ret ?_
    refine blockQ_ret ?_
    refine thenQ_ret ?_
    refine end1 rfl rfl ?_
    exact fun w1 hw1 => ⟨congrArg (fun b => Ending.returned (.bool b)) (by refine (decide_eq_true ?_).symm; simp [wds, *]), hw1.chg⟩
  · skip
    have k0 := of_decide_eq_false (hj.symm.trans k0)
    clear hj
    refine tri_skip ?_
    refine thenQ_normal ?_
    refine tri_seq ?_
    refine tri_join (ι := Bool) (fun j => [(3, .string (B s)), (16, .bool j)]) (fun j => []) (fun j => j = decide (s ∈ wds1)) ?_ (fun j hj => ?_)
    · skip
      refine tri_seq ?_
      refine tri_region ?_
      refine o_eqlT rfl rfl rfl ?_
      refine o_assign rfl rfl ?_
      refine triL_nil ?_
      refine thenQ_normal ?_
      refine tri_if rfl (fun g11 => ?_) (fun g11 => ?_)
      · skip
        refine tri_skip ?_
        refine thenQ_normal ?_
        exact ⟨true, (.cons rfl (.cons (congrArg (fun b => some (Value.bool b)) (decide_eq_true g11)) (.nil _))), fun _ h => h, (by rw [g11]; decide)⟩
      · skip
        refine tri_seq ?_
        refine tri_region ?_
        refine o_eqlT rfl rfl rfl ?_
        refine o_assign rfl rfl ?_
        refine triL_nil ?_
        refine thenQ_normal ?_
        refine tri_if rfl (fun g12 => ?_) (fun g12 => ?_)
        · skip
          refine tri_skip ?_
          refine thenQ_normal ?_
          exact ⟨true, (.cons rfl (.cons (congrArg (fun b => some (Value.bool b)) (decide_eq_true g12)) (.nil _))), fun _ h => h, (by rw [g12]; decide)⟩
        · skip
          refine tri_seq ?_
          refine tri_slots [(3, _)] (.cons rfl (.nil _)) ?_
          refine tri_region ?_
          refine o_eqlT rfl rfl rfl ?_
          refine o_assign rfl rfl ?_
          refine triL_nil ?_
          refine thenQ_normal ?_
          refine tri_if rfl (fun g13 => ?_) (fun g13 => ?_)
          · skip
            refine tri_skip ?_
            refine thenQ_normal ?_
            exact ⟨true, (.cons rfl (.cons (congrArg (fun b => some (Value.bool b)) (decide_eq_true g13)) (.nil _))), fun _ h => h, (by rw [g13]; decide)⟩
          · skip
            refine tri_seq ?_
            refine tri_region ?_
            refine o_eqlT rfl rfl rfl ?_
            refine o_assign rfl rfl ?_
            refine triL_nil ?_
            refine thenQ_normal ?_
            refine tri_if rfl (fun g14 => ?_) (fun g14 => ?_)
            · skip
              refine tri_skip ?_
              refine thenQ_normal ?_
              exact ⟨true, (.cons rfl (.cons (congrArg (fun b => some (Value.bool b)) (decide_eq_true g14)) (.nil _))), fun _ h => h, (by rw [g14]; decide)⟩
            · skip
              refine tri_seq ?_
              refine tri_region ?_
              refine o_eqlT rfl rfl rfl ?_
              refine o_assign rfl rfl ?_
              refine triL_nil ?_
              refine thenQ_normal ?_
              refine tri_if rfl (fun g15 => ?_) (fun g15 => ?_)
              · skip
                refine tri_skip ?_
                refine thenQ_normal ?_
                exact ⟨true, (.cons rfl (.cons (congrArg (fun b => some (Value.bool b)) (decide_eq_true g15)) (.nil _))), fun _ h => h, (by rw [g15]; decide)⟩
              · skip
                refine tri_seq ?_
                refine tri_slots [(3, _)] (.cons rfl (.nil _)) ?_
                refine tri_region ?_
                refine o_eqlT rfl rfl rfl ?_
                refine o_assign rfl rfl ?_
                refine triL_nil ?_
                refine thenQ_normal ?_
                refine tri_if rfl (fun g16 => ?_) (fun g16 => ?_)
                · skip
                  refine tri_skip ?_
                  refine thenQ_normal ?_
                  exact ⟨true, (.cons rfl (.cons (congrArg (fun b => some (Value.bool b)) (decide_eq_true g16)) (.nil _))), fun _ h => h, (by rw [g16]; decide)⟩
                · skip
                  refine tri_seq ?_
                  refine tri_region ?_
                  refine o_eqlT rfl rfl rfl ?_
                  refine o_assign rfl rfl ?_
                  refine triL_nil ?_
                  refine thenQ_normal ?_
                  refine tri_if rfl (fun g17 => ?_) (fun g17 => ?_)
                  · skip
                    refine tri_skip ?_
                    refine thenQ_normal ?_
                    exact ⟨true, (.cons rfl (.cons (congrArg (fun b => some (Value.bool b)) (decide_eq_true g17)) (.nil _))), fun _ h => h, (by rw [g17]; decide)⟩
                  · skip
                    refine tri_seq ?_
                    refine tri_region ?_
                    refine o_eqlT rfl rfl rfl ?_
                    refine o_assign rfl rfl ?_
                    refine triL_nil ?_
                    refine thenQ_normal ?_
                    refine tri_if rfl (fun g18 => ?_) (fun g18 => ?_)
                    · skip
                      refine tri_skip ?_
                      refine thenQ_normal ?_
                      exact ⟨true, (.cons rfl (.cons (congrArg (fun b => some (Value.bool b)) (decide_eq_true g18)) (.nil _))), fun _ h => h, (by rw [g18]; decide)⟩
                    · skip
                      refine tri_seq ?_
                      refine tri_slots [(3, _)] (.cons rfl (.nil _)) ?_
                      refine tri_region ?_
                      refine o_eqlT rfl rfl rfl ?_
                      refine o_assign rfl rfl ?_
                      refine triL_nil ?_
                      refine thenQ_normal ?_
                      refine tri_if rfl (fun g19 => ?_) (fun g19 => ?_)
                      · skip
                        refine tri_skip ?_
                        refine thenQ_normal ?_
                        exact ⟨true, (.cons rfl (.cons (congrArg (fun b => some (Value.bool b)) (decide_eq_true g19)) (.nil _))), fun _ h => h, (by rw [g19]; decide)⟩
                      · skip
                        refine tri_seq ?_
                        refine tri_region ?_
                        refine o_eqlT rfl rfl rfl ?_
                        refine o_assign rfl rfl ?_
                        refine triL_nil ?_
                        refine thenQ_normal ?_
                        refine tri_if rfl (fun g20 => ?_) (fun g20 => ?_)
                        · skip
                          refine tri_skip ?_
                          refine thenQ_normal ?_
                          exact ⟨true, (.cons rfl (.cons (congrArg (fun b => some (Value.bool b)) (decide_eq_true g20)) (.nil _))), fun _ h => h, (by rw [g20]; decide)⟩
                        · skip
                          refine tri_region ?_
                          refine o_eqlT rfl rfl rfl ?_
                          refine o_assign rfl rfl ?_
                          refine triL_nil ?_
                          refine thenQ_normal ?_
                          exact ⟨decide (s = [110, 117, 108, 108]), (.cons rfl (.cons rfl (.nil _))), fun _ h => h, (by simp [wds1, *])⟩
    refine tri_cond rfl (fun k1 => ?_) (fun k1 => ?_)
    · skip
      have k1 := of_decide_eq_true (hj.symm.trans k1)
      refine tri_exit ?_
      refine thenQ_exit ?_
      refine thenQ_exit ?_
      refine blockQ_other rfl ?_
      refine blockQ_here ?_
      refine blockQ_normal ?_
      refine thenQ_normal ?_
      refine tri_seq ?_
      refine tri_seq ?_
      refine tri_region ?_
      refine o_assign rfl rfl ?_
      refine triL_nil ?_
      refine thenQ_normal ?_
      refine tri_ret ?_
      refine thenQ_ret ?_
      refine blockQ_ret ?_
      refine thenQ_ret ?_
      refine end1 rfl rfl ?_
      exact fun w1 hw1 => ⟨congrArg (fun b => Ending.returned (.bool b)) (by refine (decide_eq_true ?_).symm; simp [wds, *]), hw1.chg⟩
    · skip
      have k1 := of_decide_eq_false (hj.symm.trans k1)
      clear hj
      refine tri_skip ?_
      refine thenQ_normal ?_
      refine tri_join (ι := Bool) (fun j => [(3, .string (B s)), (28, .bool j)]) (fun j => []) (fun j => j = decide (s ∈ wds2)) ?_ (fun j hj => ?_)
      · skip
        refine tri_seq ?_
        refine tri_region ?_
        refine o_eqlT rfl rfl rfl ?_
        refine o_assign rfl rfl ?_
        refine triL_nil ?_
        refine thenQ_normal ?_
        refine tri_if rfl (fun g22 => ?_) (fun g22 => ?_)
        · skip
          refine tri_skip ?_
          refine thenQ_normal ?_
          exact ⟨true, (.cons rfl (.cons (congrArg (fun b => some (Value.bool b)) (decide_eq_true g22)) (.nil _))), fun _ h => h, (by rw [g22]; decide)⟩
        · skip
          refine tri_seq ?_
          refine tri_region ?_
          refine o_eqlT rfl rfl rfl ?_
          refine o_assign rfl rfl ?_
          refine triL_nil ?_
          refine thenQ_normal ?_
          refine tri_if rfl (fun g23 => ?_) (fun g23 => ?_)
          · skip
            refine tri_skip ?_
            refine thenQ_normal ?_
            exact ⟨true, (.cons rfl (.cons (congrArg (fun b => some (Value.bool b)) (decide_eq_true g23)) (.nil _))), fun _ h => h, (by rw [g23]; decide)⟩
          · skip
            refine tri_seq ?_
            refine tri_slots [(3, _)] (.cons rfl (.nil _)) ?_
            refine tri_region ?_
            refine o_eqlT rfl rfl rfl ?_
            refine o_assign rfl rfl ?_
            refine triL_nil ?_
            refine thenQ_normal ?_
            refine tri_if rfl (fun g24 => ?_) (fun g24 => ?_)
            · skip
              refine tri_skip ?_
              refine thenQ_normal ?_
              exact ⟨true, (.cons rfl (.cons (congrArg (fun b => some (Value.bool b)) (decide_eq_true g24)) (.nil _))), fun _ h => h, (by rw [g24]; decide)⟩
            · skip
              refine tri_seq ?_
              refine tri_region ?_
              refine o_eqlT rfl rfl rfl ?_
              refine o_assign rfl rfl ?_
              refine triL_nil ?_
              refine thenQ_normal ?_
              refine tri_if rfl (fun g25 => ?_) (fun g25 => ?_)
              · skip
                refine tri_skip ?_
                refine thenQ_normal ?_
                exact ⟨true, (.cons rfl (.cons (congrArg (fun b => some (Value.bool b)) (decide_eq_true g25)) (.nil _))), fun _ h => h, (by rw [g25]; decide)⟩
              · skip
                refine tri_seq ?_
                refine tri_region ?_
                refine o_eqlT rfl rfl rfl ?_
                refine o_assign rfl rfl ?_
                refine triL_nil ?_
                refine thenQ_normal ?_
                refine tri_if rfl (fun g26 => ?_) (fun g26 => ?_)
                · skip
                  refine tri_skip ?_
                  refine thenQ_normal ?_
                  exact ⟨true, (.cons rfl (.cons (congrArg (fun b => some (Value.bool b)) (decide_eq_true g26)) (.nil _))), fun _ h => h, (by rw [g26]; decide)⟩
                · skip
                  refine tri_seq ?_
                  refine tri_slots [(3, _)] (.cons rfl (.nil _)) ?_
                  refine tri_region ?_
                  refine o_eqlT rfl rfl rfl ?_
                  refine o_assign rfl rfl ?_
                  refine triL_nil ?_
                  refine thenQ_normal ?_
                  refine tri_if rfl (fun g27 => ?_) (fun g27 => ?_)
                  · skip
                    refine tri_skip ?_
                    refine thenQ_normal ?_
                    exact ⟨true, (.cons rfl (.cons (congrArg (fun b => some (Value.bool b)) (decide_eq_true g27)) (.nil _))), fun _ h => h, (by rw [g27]; decide)⟩
                  · skip
                    refine tri_seq ?_
                    refine tri_region ?_
                    refine o_eqlT rfl rfl rfl ?_
                    refine o_assign rfl rfl ?_
                    refine triL_nil ?_
                    refine thenQ_normal ?_
                    refine tri_if rfl (fun g28 => ?_) (fun g28 => ?_)
                    · skip
                      refine tri_skip ?_
                      refine thenQ_normal ?_
                      exact ⟨true, (.cons rfl (.cons (congrArg (fun b => some (Value.bool b)) (decide_eq_true g28)) (.nil _))), fun _ h => h, (by rw [g28]; decide)⟩
                    · skip
                      refine tri_seq ?_
                      refine tri_region ?_
                      refine o_eqlT rfl rfl rfl ?_
                      refine o_assign rfl rfl ?_
                      refine triL_nil ?_
                      refine thenQ_normal ?_
                      refine tri_if rfl (fun g29 => ?_) (fun g29 => ?_)
                      · skip
                        refine tri_skip ?_
                        refine thenQ_normal ?_
                        exact ⟨true, (.cons rfl (.cons (congrArg (fun b => some (Value.bool b)) (decide_eq_true g29)) (.nil _))), fun _ h => h, (by rw [g29]; decide)⟩
                      · skip
                        refine tri_seq ?_
                        refine tri_slots [(3, _)] (.cons rfl (.nil _)) ?_
                        refine tri_region ?_
                        refine o_eqlT rfl rfl rfl ?_
                        refine o_assign rfl rfl ?_
                        refine triL_nil ?_
                        refine thenQ_normal ?_
                        refine tri_if rfl (fun g30 => ?_) (fun g30 => ?_)
                        · skip
                          refine tri_skip ?_
                          refine thenQ_normal ?_
                          exact ⟨true, (.cons rfl (.cons (congrArg (fun b => some (Value.bool b)) (decide_eq_true g30)) (.nil _))), fun _ h => h, (by rw [g30]; decide)⟩
                        · skip
                          refine tri_seq ?_
                          refine tri_region ?_
                          refine o_eqlT rfl rfl rfl ?_
                          refine o_assign rfl rfl ?_
                          refine triL_nil ?_
                          refine thenQ_normal ?_
                          refine tri_if rfl (fun g31 => ?_) (fun g31 => ?_)
                          · skip
                            refine tri_skip ?_
                            refine thenQ_normal ?_
                            exact ⟨true, (.cons rfl (.cons (congrArg (fun b => some (Value.bool b)) (decide_eq_true g31)) (.nil _))), fun _ h => h, (by rw [g31]; decide)⟩
                          · skip
                            refine tri_seq ?_
                            refine tri_region ?_
                            refine o_eqlT rfl rfl rfl ?_
                            refine o_assign rfl rfl ?_
                            refine triL_nil ?_
                            refine thenQ_normal ?_
                            refine tri_if rfl (fun g32 => ?_) (fun g32 => ?_)
                            · skip
                              refine tri_skip ?_
                              refine thenQ_normal ?_
                              exact ⟨true, (.cons rfl (.cons (congrArg (fun b => some (Value.bool b)) (decide_eq_true g32)) (.nil _))), fun _ h => h, (by rw [g32]; decide)⟩
                            · skip
                              refine tri_seq ?_
                              refine tri_slots [(3, _)] (.cons rfl (.nil _)) ?_
                              refine tri_region ?_
                              refine o_eqlT rfl rfl rfl ?_
                              refine o_assign rfl rfl ?_
                              refine triL_nil ?_
                              refine thenQ_normal ?_
                              refine tri_if rfl (fun g33 => ?_) (fun g33 => ?_)
                              · skip
                                refine tri_skip ?_
                                refine thenQ_normal ?_
                                exact ⟨true, (.cons rfl (.cons (congrArg (fun b => some (Value.bool b)) (decide_eq_true g33)) (.nil _))), fun _ h => h, (by rw [g33]; decide)⟩
                              · skip
                                refine tri_region ?_
                                refine o_eqlT rfl rfl rfl ?_
                                refine o_assign rfl rfl ?_
                                refine triL_nil ?_
                                refine thenQ_normal ?_
                                exact ⟨decide (s = [119, 104, 101, 114, 101]), (.cons rfl (.cons rfl (.nil _))), fun _ h => h, (by simp [wds2, *])⟩
      refine tri_cond rfl (fun k2 => ?_) (fun k2 => ?_)
      · skip
        have k2 := of_decide_eq_true (hj.symm.trans k2)
        refine tri_exit ?_
        refine thenQ_exit ?_
        refine blockQ_other rfl ?_
        refine blockQ_other rfl ?_
        refine blockQ_here ?_
        refine thenQ_normal ?_
        refine tri_seq ?_
        refine tri_seq ?_
        refine tri_region ?_
        refine o_assign rfl rfl ?_
        refine triL_nil ?_
        refine thenQ_normal ?_
        refine tri_ret ?_
        refine thenQ_ret ?_
        refine blockQ_ret ?_
        refine thenQ_ret ?_
        refine end1 rfl rfl ?_
        exact fun w1 hw1 => ⟨congrArg (fun b => Ending.returned (.bool b)) (by refine (decide_eq_true ?_).symm; simp [wds, *]), hw1.chg⟩
      · skip
        have k2 := of_decide_eq_false (hj.symm.trans k2)
        clear hj
        refine tri_skip ?_
        refine thenQ_normal ?_
        refine tri_exit ?_
        refine blockQ_other rfl ?_
        refine blockQ_other rfl ?_
        refine blockQ_other rfl ?_
        refine thenQ_exit ?_
        refine blockQ_here ?_
        refine thenQ_normal ?_
        refine tri_seq ?_
        refine tri_region ?_
        refine o_assign rfl rfl ?_
        refine triL_nil ?_
        refine thenQ_normal ?_
        refine tri_ret ?_
        refine end1 rfl rfl ?_
        exact fun w1 hw1 => ⟨congrArg (fun b => Ending.returned (.bool b)) (by refine (decide_eq_false ?_).symm; simp [wds, *]), hw1.chg⟩

end Go.Proofs.YtdcdpegomncomaaGreatDoor
