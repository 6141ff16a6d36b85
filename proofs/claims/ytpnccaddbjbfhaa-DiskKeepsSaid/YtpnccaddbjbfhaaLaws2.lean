/- the laws of trips, of images, walked -/
import Derived.Test.YtpnccaddbjbfhaaLaws
import Derived.Test.YtpnccaddbjbfhaaDisk5
namespace Go.Proofs.Ytpnccaddbjbfhaa
open Go.WK Go.RowKit 



structure TS where
  i : Nat
  c : Nat
  a : Dk
  b : Dk
  ca : Option Addr × Nat
  cb : Option Addr × Nat

theorem trips (A : Option Addr) (ln c : Nat) (l : List Stp) (n : Int) (w : World) (hr : Rd w A (stepsV l)) (hn : l.length = ln) (hst : ∀ s ∈ l, s.ok w []) (hsn : ∀ s ∈ l, s.n ≤ 140737488351232) (hn1 : -9223372036854775808 ≤ n ∧ n ≤ 9223372036854775807) : Calls Try.prog 6 #[.slice A ln c, .int .i64 n] w (Pure w (.bool true)) := by
  refine calls_tri (args := [.slice A ln c, .int .i64 n]) (lent := []) (H := []) Try.func6 rfl Try.ntmps6 rfl (Sat.start _ _ _ _) ?_
  refine (show Tri _ [(0, _), (1, _)] _ _ _ from ?_)
  have hR : ∀ cx H, cx.w0 = w → cx.lent = [] → RdS cx H A (stepsV l) := fun cx H h1 h2 => RdS.arg (by rw [h1]; exact hr) h2
  refine tri_seq ?_
  refine tri_region ?_
  refine o_assign rfl rfl ?_
  refine triL_nil ?_
  refine thenQ_normal ?_
  refine tri_seq ?_
  refine tri_region ?_
  refine o_callM [] [] [] [] (vs := [.int .i64 4]) rfl rfl rfl rfl Try.call9 (fun c hc => by cases hc) (fun c hc => by cases hc) (fun w1 _ _ => newK 4 w1 (by decide) (by decide)) (fun j _ => ?_)
  refine o_move rfl rfl ?_
  refine o_extract rfl rfl rfl ?_
  refine o_extract rfl rfl rfl ?_
  refine o_assign rfl rfl ?_
  refine o_assign rfl rfl ?_
  refine triL_nil ?_
  refine thenQ_normal ?_
  refine tri_seq ?_
  refine tri_slots [(6, _), (5, _), (0, _), (1, _)] (.cons rfl (.cons rfl (.cons rfl (.cons rfl (.nil _))))) ?_
  refine tri_region ?_
  refine o_callM (dkC j.1 (some ⟨j.2, 0, none⟩) 4 none 0 (Dk.new 4)) [] [] [] (vs := [.int .i64 4]) rfl rfl rfl rfl Try.call9 (fun c hc => by cases hc) (fun c hc => by cases hc) (fun w1 _ _ => newK 4 w1 (by decide) (by decide)) (fun k _ => ?_)
  refine o_move rfl rfl ?_
  refine o_extract rfl rfl rfl ?_
  refine o_extract rfl rfl rfl ?_
  refine o_assign rfl rfl ?_
  refine o_assign rfl rfl ?_
  refine triL_nil ?_
  refine thenQ_normal ?_
  refine tri_seq ?_
  refine tri_seq ?_
  refine tri_slots [(8, _), (7, _), (6, _), (5, _), (0, _), (1, _)] (.cons rfl (.cons rfl (.cons rfl (.cons rfl (.cons rfl (.cons rfl (.nil _))))))) ?_
  refine tri_region ?_
  refine o_move rfl rfl ?_
  refine o_neqI rfl rfl rfl ?_
  refine o_move rfl rfl ?_
  refine' triL_or [_, _] [(7, _), (5, _), (0, _), (1, _)] (dj := 26) (dr := 28) rfl rfl (fun g1 => ?_) ⟨_, rfl, rfl, rfl, (.cons rfl (.cons rfl (.cons rfl (.cons rfl (.nil _)))))⟩ rfl ?_
  rotate_left
  · skip
    skip
    refine o_move rfl rfl ?_
    refine o_neqI rfl rfl rfl ?_
    exact triL_nil (Piece.mk rfl rfl (.cons rfl (.cons rfl (.cons rfl (.cons rfl (.nil _))))) (fun _ h => h))
  refine o_move rfl rfl ?_
  refine' triL_or [_, _] [(7, _), (5, _), (0, _), (1, _)] (dj := 30) (dr := 32) rfl rfl (fun g2 => ?_) ⟨_, rfl, rfl, rfl, (.cons rfl (.cons rfl (.cons rfl (.cons rfl (.nil _)))))⟩ rfl ?_
  rotate_left
  · skip
    skip
    refine o_move rfl rfl ?_
    refine o_eqlNil Try.underlying24 rfl rfl rfl ?_
    exact triL_nil (Piece.mk rfl rfl (.cons rfl (.cons rfl (.cons rfl (.cons rfl (.nil _))))) (fun _ h => h))
  refine o_move rfl rfl ?_
  refine' triL_or [_, _] [(7, _), (5, _), (0, _), (1, _)] (dj := 34) (dr := 36) rfl rfl (fun g3 => ?_) ⟨_, rfl, rfl, rfl, (.cons rfl (.cons rfl (.cons rfl (.cons rfl (.nil _)))))⟩ rfl ?_
  rotate_left
  · skip
    skip
    refine o_move rfl rfl ?_
    refine o_eqlNil Try.underlying24 rfl rfl rfl ?_
    exact triL_nil (Piece.mk rfl rfl (.cons rfl (.cons rfl (.cons rfl (.cons rfl (.nil _))))) (fun _ h => h))
  refine triL_nil ?_
  refine thenQ_normal ?_
  refine tri_cond rfl (fun h0 => ?_) (fun h0 => ?_)
  · skip
    exact absurd h0 (by simp)
  · skip
    refine tri_skip ?_
    refine thenQ_normal ?_
    refine tri_seq ?_
    refine tri_seq ?_
    refine tri_region ?_
    refine o_move rfl rfl ?_
    refine o_callP (first := []) (cap := []) rfl rfl rfl Try.call10 (fun w1 h1 => longL A ln c l w1 (h1.rd (hR _ _ rfl rfl)) hn) ?_
    refine o_move rfl rfl ?_
    refine' triL_or [_, _] [(7, _), (5, _), (0, _), (1, _)] (dj := 40) (dr := 42) rfl rfl (fun g4 => ?_) ⟨_, rfl, rfl, rfl, (.cons rfl (.cons rfl (.cons rfl (.cons rfl (.nil _)))))⟩ rfl ?_
    rotate_left
    · skip
      skip
      refine o_move rfl rfl ?_
      refine o_lss rfl rfl rfl ?_
      exact triL_nil (Piece.mk rfl rfl (.cons rfl (.cons rfl (.cons rfl (.cons rfl (.nil _))))) (fun _ h => h))
    refine triL_nil ?_
    refine thenQ_normal ?_
    refine tri_cond rfl (fun h0 => ?_) (fun h0 => ?_)
    · skip
      refine tri_seq ?_
      refine tri_slots [] (.nil _) ?_
      refine tri_region ?_
      refine o_callP (first := []) (cap := []) rfl rfl rfl Try.call11 (fun w1 h1 => aliveL w1) ?_
      refine o_assign rfl rfl ?_
      refine triL_nil ?_
      refine thenQ_normal ?_
      refine tri_ret ?_
      refine thenQ_ret ?_
      refine end1 rfl rfl ?_
      exact fun w1 hw1 => ⟨rfl, hw1.chg⟩
    · skip
      have h0' : longB l = false ∧ ¬ n < 0 := by simpa using h0
      obtain ⟨hl1, hl2⟩ := longB_false h0'.1
      refine tri_skip ?_
      refine thenQ_normal ?_
      refine tri_seq ?_
      refine tri_region ?_
      refine o_move rfl rfl ?_
      refine o_move rfl rfl ?_
      refine o_callM [] (dkC j.1 (some ⟨j.2, 0, none⟩) 4 none 0 (Dk.new 4)) (dkC k.1 (some ⟨k.2, 0, none⟩) 4 none 0 (Dk.new 4)) (dkF j.1 (some ⟨j.2, 0, none⟩) none) rfl rfl rfl rfl Try.call27 dk_lend dk_lend' (fun w1 h1 h2 => tripK j.1 (some ⟨j.2, 0, none⟩) 4 none 0 (Dk.new 4) n w1 h2.cx) (fun _ _ => ?_)
      refine triL_nil ?_
      refine thenQ_normal ?_
      refine tri_seq ?_
      refine tri_slots [(7, _), (5, _), (0, _), (1, _)] (.cons rfl (.cons rfl (.cons rfl (.cons rfl (.nil _))))) ?_
      refine tri_region ?_
      refine o_assign rfl rfl ?_
      refine triL_nil ?_
      refine thenQ_normal ?_
      refine tri_seq ?_
      refine tri_seq ?_
      refine tri_region ?_
      refine o_assign rfl rfl ?_
      refine triL_nil ?_
      refine thenQ_normal ?_
      refine tri_block ?_
      refine tri_loop (ι := TS) (F := fun q => [(0, .slice A ln c), (1, .int .i64 n), (5, .pointer (some ⟨j.1, 0, none⟩)), (7, .pointer (some ⟨k.1, 0, none⟩)), (9, .int .i64 (q.c : Int)), (10, .int .i64 (q.i : Int))]) (HH := fun q => ((dkC j.1 (some ⟨j.2, 0, none⟩) 4 q.ca.1 q.ca.2 q.a) ++ (dkC k.1 (some ⟨k.2, 0, none⟩) 4 q.cb.1 q.cb.2 q.b))) (Pu := fun q => (q.i ≤ ln ∧ q.c ≤ q.i) ∧ Trip2 n q.c q.a q.b) (μ := fun q => ln - q.i) (⟨0, 0, (Dk.new 4).armI n, Dk.new 4, (none, 0), (none, 0)⟩) (.cons rfl (.cons rfl (.cons rfl (.cons rfl (.cons rfl (.cons rfl (.nil _))))))) (fun _ h => h) (⟨⟨Nat.zero_le _, Nat.le_refl _⟩, trip_start (by omega)⟩) (fun q hi => ?_)
      refine tri_seq ?_
      refine tri_seq ?_
      refine tri_region ?_
      refine o_move rfl rfl ?_
      refine o_move rfl rfl ?_
      refine o_lenS Try.underlying22 rfl rfl ?_
      refine o_lss rfl rfl rfl ?_
      refine triL_nil ?_
      refine thenQ_normal ?_
      refine tri_if rfl (fun h1 => ?_) (fun h1 => ?_)
      · skip
        refine tri_skip ?_
        refine thenQ_normal ?_
        refine tri_seq ?_
        refine tri_block ?_
        refine tri_seq ?_
        refine tri_slots [(0, _), (1, _), (5, _), (7, _), (9, _), (10, _)] (.cons rfl (.cons rfl (.cons rfl (.cons rfl (.cons rfl (.cons rfl (.nil _))))))) ?_
        refine tri_region ?_
        refine o_move rfl rfl ?_
        refine o_move rfl rfl ?_
        refine o_idxS Try.underlying22 sz35 rfl rfl rfl (hR _ _ rfl rfl) (by omega) (by omega) (by rw [steps_length, hn]) (by decide) ?_
        refine o_loadRA agg35 sz35 rfl rfl (hR _ _ rfl rfl) (steps_at l q.i (by omega)) rfl (by decide) ?_
        refine o_alloc _ rfl zero35 rfl (fun b11 => ?_)
        refine o_storeW sz35 .z rfl rfl rfl rfl rfl rfl (allOne_spec rfl) ?_
        refine triL_nil ?_
        refine thenQ_normal ?_
        refine tri_seq ?_
        refine tri_slots [(11, _), (0, _), (1, _), (5, _), (7, _), (9, _), (10, _)] (.cons rfl (.cons rfl (.cons rfl (.cons rfl (.cons rfl (.cons rfl (.cons rfl (.nil _)))))))) ?_
        refine tri_region ?_
        refine o_field fo35_0 rfl rfl ?_
        refine o_load agg3 (by first | exact Nth.z | exact .s .z | exact .s (.s .z) | exact .s (.s (.s .z)) | exact .s (.s (.s (.s .z))) | exact .s (.s (.s (.s (.s .z)))) | exact .s (.s (.s (.s (.s (.s .z))))) | exact .s (.s (.s (.s (.s (.s (.s .z))))))) rfl rfl rfl ?_
        refine o_eqlI rfl rfl rfl ?_
        refine o_move rfl rfl ?_
        refine' triL_or [_, _, _, _, _, _, _, _, _, _, _, _, _, _, _, _, _, _, _, _, _, _, _, _, _, _, _, _, _] [(11, _), (0, _), (1, _), (5, _), (7, _), (9, _), (10, _)] (dj := 61) (dr := 90) rfl rfl (fun g5 => ?_) ⟨_, rfl, rfl, rfl, (.cons rfl (.cons rfl (.cons rfl (.cons rfl (.cons rfl (.cons rfl (.cons rfl (.nil _))))))))⟩ rfl ?_
        rotate_left
        · skip
          skip
          refine o_field fo35_0 rfl rfl ?_
          refine o_load agg3 (by first | exact Nth.z | exact .s .z | exact .s (.s .z) | exact .s (.s (.s .z)) | exact .s (.s (.s (.s .z))) | exact .s (.s (.s (.s (.s .z)))) | exact .s (.s (.s (.s (.s (.s .z))))) | exact .s (.s (.s (.s (.s (.s (.s .z))))))) rfl rfl rfl ?_
          refine o_eqlI rfl rfl rfl ?_
          refine o_move rfl rfl ?_
          refine' triL_or [_, _, _] [(61, _), (11, _), (0, _), (1, _), (5, _), (7, _), (9, _), (10, _)] (dj := 65) (dr := 68) rfl rfl (fun g6 => ?_) ⟨_, rfl, rfl, rfl, (.cons rfl (.cons rfl (.cons rfl (.cons rfl (.cons rfl (.cons rfl (.cons rfl (.cons rfl (.nil _)))))))))⟩ rfl ?_
          rotate_left
          · skip
            skip
            refine o_field fo35_0 rfl rfl ?_
            refine o_load agg3 (by first | exact Nth.z | exact .s .z | exact .s (.s .z) | exact .s (.s (.s .z)) | exact .s (.s (.s (.s .z))) | exact .s (.s (.s (.s (.s .z)))) | exact .s (.s (.s (.s (.s (.s .z))))) | exact .s (.s (.s (.s (.s (.s (.s .z))))))) rfl rfl rfl ?_
            refine o_eqlI rfl rfl rfl ?_
            exact triL_nil (Piece.mk rfl rfl (.cons rfl (.cons rfl (.cons rfl (.cons rfl (.cons rfl (.cons rfl (.cons rfl (.cons rfl (.nil _))))))))) (fun _ h => h))
          refine o_move rfl rfl ?_
          refine' triL_and [_, _, _] [(61, _), (11, _), (0, _), (1, _), (5, _), (7, _), (9, _), (10, _)] (dj := 70) (dr := 73) rfl rfl (fun g7 => ?_) ⟨_, rfl, rfl, rfl, (.cons rfl (.cons rfl (.cons rfl (.cons rfl (.cons rfl (.cons rfl (.cons rfl (.cons rfl (.nil _)))))))))⟩ rfl ?_
          rotate_left
          · skip
            skip
            refine o_field fo35_1 rfl rfl ?_
            refine o_load agg3 (by first | exact Nth.z | exact .s .z | exact .s (.s .z) | exact .s (.s (.s .z)) | exact .s (.s (.s (.s .z))) | exact .s (.s (.s (.s (.s .z)))) | exact .s (.s (.s (.s (.s (.s .z))))) | exact .s (.s (.s (.s (.s (.s (.s .z))))))) rfl rfl rfl ?_
            refine o_geq rfl rfl rfl ?_
            exact triL_nil (Piece.mk rfl rfl (.cons rfl (.cons rfl (.cons rfl (.cons rfl (.cons rfl (.cons rfl (.cons rfl (.cons rfl (.nil _))))))))) (fun _ h => h))
          refine o_move rfl rfl ?_
          refine' triL_and [_, _, _] [(61, _), (11, _), (0, _), (1, _), (5, _), (7, _), (9, _), (10, _)] (dj := 75) (dr := 78) rfl rfl (fun g8 => ?_) ⟨_, rfl, rfl, rfl, (.cons rfl (.cons rfl (.cons rfl (.cons rfl (.cons rfl (.cons rfl (.cons rfl (.cons rfl (.nil _)))))))))⟩ rfl ?_
          rotate_left
          · skip
            skip
            refine o_field fo35_1 rfl rfl ?_
            refine o_load agg3 (by first | exact Nth.z | exact .s .z | exact .s (.s .z) | exact .s (.s (.s .z)) | exact .s (.s (.s (.s .z))) | exact .s (.s (.s (.s (.s .z)))) | exact .s (.s (.s (.s (.s (.s .z))))) | exact .s (.s (.s (.s (.s (.s (.s .z))))))) rfl rfl rfl ?_
            refine o_lss rfl rfl rfl ?_
            exact triL_nil (Piece.mk rfl rfl (.cons rfl (.cons rfl (.cons rfl (.cons rfl (.cons rfl (.cons rfl (.cons rfl (.cons rfl (.nil _))))))))) (fun _ h => h))
          refine o_move rfl rfl ?_
          refine' triL_and [_, _, _, _, _, _, _, _, _] [(61, _), (11, _), (0, _), (1, _), (5, _), (7, _), (9, _), (10, _)] (dj := 80) (dr := 89) rfl rfl (fun g9 => ?_) ⟨_, rfl, rfl, rfl, (.cons rfl (.cons rfl (.cons rfl (.cons rfl (.cons rfl (.cons rfl (.cons rfl (.cons rfl (.nil _)))))))))⟩ rfl ?_
          rotate_left
          · skip
            skip
            refine o_field fo35_0 rfl rfl ?_
            refine o_load agg3 (by first | exact Nth.z | exact .s .z | exact .s (.s .z) | exact .s (.s (.s .z)) | exact .s (.s (.s (.s .z))) | exact .s (.s (.s (.s (.s .z)))) | exact .s (.s (.s (.s (.s (.s .z))))) | exact .s (.s (.s (.s (.s (.s (.s .z))))))) rfl rfl rfl ?_
            refine o_eqlI rfl rfl rfl ?_
            refine o_move rfl rfl ?_
            refine' triL_or [_, _, _, _] [(80, _), (61, _), (11, _), (0, _), (1, _), (5, _), (7, _), (9, _), (10, _)] (dj := 84) (dr := 88) rfl rfl (fun g10 => ?_) ⟨_, rfl, rfl, rfl, (.cons rfl (.cons rfl (.cons rfl (.cons rfl (.cons rfl (.cons rfl (.cons rfl (.cons rfl (.cons rfl (.nil _))))))))))⟩ rfl ?_
            rotate_left
            · skip
              skip
              refine o_field fo35_2 rfl rfl ?_
              refine o_load agg32 (by first | exact Nth.z | exact .s .z | exact .s (.s .z) | exact .s (.s (.s .z)) | exact .s (.s (.s (.s .z))) | exact .s (.s (.s (.s (.s .z)))) | exact .s (.s (.s (.s (.s (.s .z))))) | exact .s (.s (.s (.s (.s (.s (.s .z))))))) rfl rfl rfl ?_
              refine o_lenS Try.underlying32 rfl rfl ?_
              refine o_eqlI rfl rfl rfl ?_
              exact triL_nil (Piece.mk rfl rfl (.cons rfl (.cons rfl (.cons rfl (.cons rfl (.cons rfl (.cons rfl (.cons rfl (.cons rfl (.cons rfl (.nil _)))))))))) (fun _ h => h))
            exact triL_nil (Piece.mk rfl rfl (.cons rfl (.cons rfl (.cons rfl (.cons rfl (.cons rfl (.cons rfl (.cons rfl (.cons rfl (.nil _))))))))) (fun _ h => h))
          exact triL_nil (Piece.mk rfl rfl (.cons rfl (.cons rfl (.cons rfl (.cons rfl (.cons rfl (.cons rfl (.cons rfl (.nil _)))))))) (fun _ h => h))
        refine o_assign rfl rfl ?_
        refine triL_nil ?_
        refine thenQ_normal ?_
        refine tri_seq ?_
        refine tri_seq ?_
        refine tri_region ?_
        refine o_move rfl rfl ?_
        refine o_not rfl rfl ?_
        refine triL_nil ?_
        refine thenQ_normal ?_
        refine tri_cond rfl (fun h4 => ?_) (fun h4 => ?_)
        · skip
          have h4 : ∃ x, x = 0 := ⟨0, rfl⟩
          refine tri_exit ?_
          refine thenQ_exit ?_
          refine blockQ_here ?_
          refine thenQ_normal ?_
          refine tri_slots [(0, _), (1, _), (5, _), (7, _), (9, _), (10, _)] (.cons rfl (.cons rfl (.cons rfl (.cons rfl (.cons rfl (.cons rfl (.nil _))))))) ?_
          refine tri_region ?_
          refine o_move rfl rfl ?_
          refine o_addN rfl rfl rfl (by omega) ?_
          refine o_assign rfl rfl ?_
          refine triL_nil ?_
          refine thenQ_normal ?_
          exact ⟨⟨q.i + 1, q.c, q.a, q.b, q.ca, q.cb⟩, (.cons rfl (.cons rfl (.cons rfl (.cons rfl (.cons rfl (.cons rfl (.nil _))))))), (fun w1 hw => hw.tail), ⟨⟨by simp only; omega, by simp only; omega⟩, hi.2⟩, (by simp only; omega)⟩
        · skip
          rw [Bool.not_eq_false'] at h4
          have hfine : fineP 4 (l.getD q.i Stp.nil) := by
            have hl0 := (hst _ (getD_memS l q.i (by omega))).2.1
            unfold fineP
            simp only [Bool.or_eq_true, Bool.and_eq_true, decide_eq_true_eq] at h4
            rcases h4 with h5 | ⟨⟨⟨h5, h6⟩, h7⟩, h8⟩
            · exact .inl h5
            · exact .inr ⟨h5, h6, h7, h8.imp id (fun h9 => by omega)⟩
          refine tri_skip ?_
          refine thenQ_normal ?_
          refine tri_seq ?_
          refine tri_seq ?_
          refine tri_slots [(11, _), (0, _), (1, _), (5, _), (7, _), (9, _), (10, _)] (.cons rfl (.cons rfl (.cons rfl (.cons rfl (.cons rfl (.cons rfl (.cons rfl (.nil _)))))))) ?_
          refine tri_region ?_
          refine o_move rfl rfl ?_
          refine o_move rfl rfl ?_
          refine o_geq rfl rfl rfl ?_
          refine triL_nil ?_
          refine thenQ_normal ?_
          refine tri_if rfl (fun h5 => ?_) (fun h5 => ?_)
          · skip
            have htd := trip_dark (x := (l.getD q.i Stp.nil)) hi.2 hfine (by omega)
            refine tri_seq ?_
            refine tri_region ?_
            refine o_assign rfl rfl ?_
            refine triL_nil ?_
            refine thenQ_normal ?_
            refine tri_seq ?_
            refine tri_seq ?_
            refine tri_slots [(11, _), (0, _), (1, _), (5, _), (7, _), (9, _), (10, _)] (.cons rfl (.cons rfl (.cons rfl (.cons rfl (.cons rfl (.cons rfl (.cons rfl (.nil _)))))))) ?_
            refine tri_region ?_
            refine o_field fo35_0 rfl rfl ?_
            refine o_load agg3 (by first | exact Nth.z | exact .s .z | exact .s (.s .z) | exact .s (.s (.s .z)) | exact .s (.s (.s (.s .z))) | exact .s (.s (.s (.s (.s .z)))) | exact .s (.s (.s (.s (.s (.s .z))))) | exact .s (.s (.s (.s (.s (.s (.s .z))))))) rfl rfl rfl ?_
            refine triL_nil ?_
            refine thenQ_normal ?_
            refine tri_block ?_
            refine tri_seq ?_
            refine tri_region ?_
            refine o_eqlI rfl rfl rfl ?_
            refine o_assign rfl rfl ?_
            refine triL_nil ?_
            refine thenQ_normal ?_
            refine tri_if rfl (fun c0 => ?_) (fun c0 => ?_)
            · skip
              refine tri_slots [(11, _), (0, _), (1, _), (5, _), (7, _), (9, _), (10, _)] (.cons rfl (.cons rfl (.cons rfl (.cons rfl (.cons rfl (.cons rfl (.cons rfl (.nil _)))))))) ?_
              refine tri_region ?_
              refine o_move rfl rfl ?_
              refine o_field fo35_1 rfl rfl ?_
              refine o_load agg3 (by first | exact Nth.z | exact .s .z | exact .s (.s .z) | exact .s (.s (.s .z)) | exact .s (.s (.s (.s .z))) | exact .s (.s (.s (.s (.s .z)))) | exact .s (.s (.s (.s (.s (.s .z))))) | exact .s (.s (.s (.s (.s (.s (.s .z))))))) rfl rfl rfl ?_
              refine o_callM [box b11 35 (stepV (l.getD q.i Stp.nil))] (dkC j.1 (some ⟨j.2, 0, none⟩) 4 q.ca.1 q.ca.2 q.a) (dkC k.1 (some ⟨k.2, 0, none⟩) 4 q.cb.1 q.cb.2 q.b) (dkF j.1 (some ⟨j.2, 0, none⟩) q.ca.1) rfl rfl rfl rfl Try.call18 dk_lend dk_lend' (fun w1 h1 h2 => readK j.1 (some ⟨j.2, 0, none⟩) 4 q.ca.1 q.ca.2 q.a (l.getD q.i Stp.nil).at_ w1 h2.cx hi.2.good (by have := hi.2.cache; omega)) (fun u _ => ?_)
              have ea : q.a.ans (l.getD q.i Stp.nil) = ((q.a.read (l.getD q.i Stp.nil).at_).2.1, (q.a.read (l.getD q.i Stp.nil).at_).1, (q.a.read (l.getD q.i Stp.nil).at_).2.2) := by rw [Dk.ans, if_pos c0]
              have e1 := htd.1
              rw [ea] at e1
              simp only at e1
              rw [e1]
              rw [show (q.a.read (l.getD q.i Stp.nil).at_).2.2 = (q.a.ans (l.getD q.i Stp.nil)).2.2 by rw [ea]]
              refine o_move rfl rfl ?_
              refine o_extract rfl rfl rfl ?_
              refine o_extract rfl rfl rfl ?_
              refine o_assign rfl rfl ?_
              refine triL_nil ?_
              refine blockQ_normal ?_
              refine thenQ_normal ?_
              refine tri_seq ?_
              refine tri_seq ?_
              refine tri_slots [(13, _), (0, _), (1, _), (5, _), (7, _), (9, _), (10, _)] (.cons rfl (.cons rfl (.cons rfl (.cons rfl (.cons rfl (.cons rfl (.cons rfl (.nil _)))))))) ?_
              refine tri_region ?_
              refine o_move rfl rfl ?_
              refine o_neqIF rfl rfl rfl rfl ?_
              refine o_move rfl rfl ?_
              refine o_move rfl rfl ?_
              refine o_callP (first := []) (cap := []) rfl rfl rfl Try.call22 (fun w1 h1 => darkK j.1 (some ⟨j.2, 0, none⟩) 4 q.ca.1 q.ca.2 (q.a.ans (l.getD q.i Stp.nil)).2.2 w1 (h1.rd (RdS.box (i := 2) (.s (.s .z))))) ?_
              rw [htd.2.1]
              refine o_not rfl rfl ?_
              refine o_pickF rfl rfl rfl rfl ?_
              refine triL_nil ?_
              refine thenQ_normal ?_
              refine tri_cond_false rfl ?_
              refine tri_skip ?_
              refine thenQ_normal ?_
              refine tri_exit ?_
              refine thenQ_exit ?_
              refine blockQ_here ?_
              refine thenQ_normal ?_
              refine tri_slots [(0, _), (1, _), (5, _), (7, _), (9, _), (10, _)] (.cons rfl (.cons rfl (.cons rfl (.cons rfl (.cons rfl (.cons rfl (.nil _))))))) ?_
              refine tri_region ?_
              refine o_move rfl rfl ?_
              refine o_addN rfl rfl rfl (by omega) ?_
              refine o_assign rfl rfl ?_
              refine triL_nil ?_
              refine thenQ_normal ?_
              exact ⟨⟨q.i + 1, q.c, (q.a.ans (l.getD q.i Stp.nil)).2.2, q.b, q.ca, q.cb⟩, (.cons rfl (.cons rfl (.cons rfl (.cons rfl (.cons rfl (.cons rfl (.nil _))))))), (fun w1 hw => hw.sublist (List.Sublist.cons _ (List.Sublist.cons _ (List.Sublist.refl _)))), ⟨⟨by simp only; omega, by simp only; omega⟩, htd.2.2⟩, (by simp only; omega)⟩
            · skip
              refine tri_seq ?_
              refine tri_region ?_
              refine o_eqlI rfl rfl rfl ?_
              refine o_assign rfl rfl ?_
              refine triL_nil ?_
              refine thenQ_normal ?_
              refine tri_if rfl (fun c1 => ?_) (fun c1 => ?_)
              · skip
                refine tri_slots [(11, _), (0, _), (1, _), (5, _), (7, _), (9, _), (10, _)] (.cons rfl (.cons rfl (.cons rfl (.cons rfl (.cons rfl (.cons rfl (.cons rfl (.nil _)))))))) ?_
                refine tri_region ?_
                refine o_move rfl rfl ?_
                refine o_field fo35_1 rfl rfl ?_
                refine o_load agg3 (by first | exact Nth.z | exact .s .z | exact .s (.s .z) | exact .s (.s (.s .z)) | exact .s (.s (.s (.s .z))) | exact .s (.s (.s (.s (.s .z)))) | exact .s (.s (.s (.s (.s (.s .z))))) | exact .s (.s (.s (.s (.s (.s (.s .z))))))) rfl rfl rfl ?_
                refine o_field fo35_2 rfl rfl ?_
                refine o_load agg32 (by first | exact Nth.z | exact .s .z | exact .s (.s .z) | exact .s (.s (.s .z)) | exact .s (.s (.s (.s .z))) | exact .s (.s (.s (.s (.s .z)))) | exact .s (.s (.s (.s (.s (.s .z))))) | exact .s (.s (.s (.s (.s (.s (.s .z))))))) rfl rfl rfl ?_
                refine o_callM [box b11 35 (stepV (l.getD q.i Stp.nil))] (dkC j.1 (some ⟨j.2, 0, none⟩) 4 q.ca.1 q.ca.2 q.a) (dkC k.1 (some ⟨k.2, 0, none⟩) 4 q.cb.1 q.cb.2 q.b) (dkF j.1 (some ⟨j.2, 0, none⟩) q.ca.1) rfl rfl rfl rfl Try.call13 dk_lend dk_lend' (fun w1 h1 h2 => writeK j.1 (some ⟨j.2, 0, none⟩) 4 q.ca.1 q.ca.2 q.a (l.getD q.i Stp.nil).at_ (l.getD q.i Stp.nil).A (l.getD q.i Stp.nil).n (l.getD q.i Stp.nil).c (l.getD q.i Stp.nil).b w1 h2.cx hi.2.good (by have := hi.2.cache; omega) (Stp.call (L := [box b11 35 (stepV (l.getD q.i Stp.nil))]) (D := (dkC j.1 (some ⟨j.2, 0, none⟩) 4 q.ca.1 q.ca.2 q.a)) (R := (dkC k.1 (some ⟨k.2, 0, none⟩) 4 q.cb.1 q.cb.2 q.b)) (hst _ (getD_memS l q.i (by omega))) h1 dk_lend').1 (hst _ (getD_memS l q.i (by omega))).2.1) (fun u _ => ?_)
                have ea : q.a.ans (l.getD q.i Stp.nil) = ((q.a.write (l.getD q.i Stp.nil).at_ (l.getD q.i Stp.nil).b).1, [], (q.a.write (l.getD q.i Stp.nil).at_ (l.getD q.i Stp.nil).b).2) := by rw [Dk.ans, if_neg c0, if_pos c1]
                have e1 := htd.1
                rw [ea] at e1
                simp only at e1
                rw [e1]
                rw [show (q.a.write (l.getD q.i Stp.nil).at_ (l.getD q.i Stp.nil).b).2 = (q.a.ans (l.getD q.i Stp.nil)).2.2 by rw [ea]]
                refine o_assign rfl rfl ?_
                refine triL_nil ?_
                refine blockQ_normal ?_
                refine thenQ_normal ?_
                refine tri_seq ?_
                refine tri_seq ?_
                refine tri_slots [(13, _), (0, _), (1, _), (5, _), (7, _), (9, _), (10, _)] (.cons rfl (.cons rfl (.cons rfl (.cons rfl (.cons rfl (.cons rfl (.cons rfl (.nil _)))))))) ?_
                refine tri_region ?_
                refine o_move rfl rfl ?_
                refine o_neqIF rfl rfl rfl rfl ?_
                refine o_move rfl rfl ?_
                refine o_move rfl rfl ?_
                refine o_callP (first := []) (cap := []) rfl rfl rfl Try.call22 (fun w1 h1 => darkK j.1 (some ⟨j.2, 0, none⟩) 4 u.1 u.2 (q.a.ans (l.getD q.i Stp.nil)).2.2 w1 (h1.rd (RdS.box (i := 1) (.s .z)))) ?_
                rw [htd.2.1]
                refine o_not rfl rfl ?_
                refine o_pickF rfl rfl rfl rfl ?_
                refine triL_nil ?_
                refine thenQ_normal ?_
                refine tri_cond_false rfl ?_
                refine tri_skip ?_
                refine thenQ_normal ?_
                refine tri_exit ?_
                refine thenQ_exit ?_
                refine blockQ_here ?_
                refine thenQ_normal ?_
                refine tri_slots [(0, _), (1, _), (5, _), (7, _), (9, _), (10, _)] (.cons rfl (.cons rfl (.cons rfl (.cons rfl (.cons rfl (.cons rfl (.nil _))))))) ?_
                refine tri_region ?_
                refine o_move rfl rfl ?_
                refine o_addN rfl rfl rfl (by omega) ?_
                refine o_assign rfl rfl ?_
                refine triL_nil ?_
                refine thenQ_normal ?_
                exact ⟨⟨q.i + 1, q.c, (q.a.ans (l.getD q.i Stp.nil)).2.2, q.b, u, q.cb⟩, (.cons rfl (.cons rfl (.cons rfl (.cons rfl (.cons rfl (.cons rfl (.nil _))))))), (fun w1 hw => hw.tail), ⟨⟨by simp only; omega, by simp only; omega⟩, htd.2.2⟩, (by simp only; omega)⟩
              · skip
                refine tri_slots [(0, _), (1, _), (5, _), (7, _), (9, _), (10, _)] (.cons rfl (.cons rfl (.cons rfl (.cons rfl (.cons rfl (.cons rfl (.nil _))))))) ?_
                refine tri_region ?_
                refine o_move rfl rfl ?_
                refine o_callM [box b11 35 (stepV (l.getD q.i Stp.nil))] (dkC j.1 (some ⟨j.2, 0, none⟩) 4 q.ca.1 q.ca.2 q.a) (dkC k.1 (some ⟨k.2, 0, none⟩) 4 q.cb.1 q.cb.2 q.b) (dkF j.1 (some ⟨j.2, 0, none⟩) q.ca.1) rfl rfl rfl rfl Try.call15 dk_lend dk_lend' (fun w1 h1 h2 => syncK j.1 (some ⟨j.2, 0, none⟩) 4 q.ca.1 q.ca.2 q.a w1 h2.cx hi.2.good (by have := hi.2.cache; omega)) (fun _ _ => ?_)
                have ea : q.a.ans (l.getD q.i Stp.nil) = (q.a.syncI.1, [], q.a.syncI.2) := by rw [Dk.ans, if_neg c0, if_neg c1]
                have e1 := htd.1
                rw [ea] at e1
                simp only at e1
                rw [e1]
                rw [show q.a.syncI.2 = (q.a.ans (l.getD q.i Stp.nil)).2.2 by rw [ea]]
                refine o_assign rfl rfl ?_
                refine triL_nil ?_
                refine blockQ_normal ?_
                refine thenQ_normal ?_
                refine tri_seq ?_
                refine tri_seq ?_
                refine tri_region ?_
                refine o_move rfl rfl ?_
                refine o_neqIF rfl rfl rfl rfl ?_
                refine o_move rfl rfl ?_
                refine o_move rfl rfl ?_
                refine o_callP (first := []) (cap := []) rfl rfl rfl Try.call22 (fun w1 h1 => darkK j.1 (some ⟨j.2, 0, none⟩) 4 q.ca.1 q.ca.2 (q.a.ans (l.getD q.i Stp.nil)).2.2 w1 (h1.rd (RdS.box (i := 1) (.s .z)))) ?_
                rw [htd.2.1]
                refine o_not rfl rfl ?_
                refine o_pickF rfl rfl rfl rfl ?_
                refine triL_nil ?_
                refine thenQ_normal ?_
                refine tri_cond_false rfl ?_
                refine tri_skip ?_
                refine thenQ_normal ?_
                refine tri_exit ?_
                refine thenQ_exit ?_
                refine blockQ_here ?_
                refine thenQ_normal ?_
                refine tri_slots [(0, _), (1, _), (5, _), (7, _), (9, _), (10, _)] (.cons rfl (.cons rfl (.cons rfl (.cons rfl (.cons rfl (.cons rfl (.nil _))))))) ?_
                refine tri_region ?_
                refine o_move rfl rfl ?_
                refine o_addN rfl rfl rfl (by omega) ?_
                refine o_assign rfl rfl ?_
                refine triL_nil ?_
                refine thenQ_normal ?_
                exact ⟨⟨q.i + 1, q.c, (q.a.ans (l.getD q.i Stp.nil)).2.2, q.b, q.ca, q.cb⟩, (.cons rfl (.cons rfl (.cons rfl (.cons rfl (.cons rfl (.cons rfl (.nil _))))))), (fun w1 hw => hw.tail), ⟨⟨by simp only; omega, by simp only; omega⟩, htd.2.2⟩, (by simp only; omega)⟩
          · skip
            refine tri_skip ?_
            refine thenQ_normal ?_
            refine tri_seq ?_
            refine tri_region ?_
            refine o_move rfl rfl ?_
            refine o_addN rfl rfl rfl (by omega) ?_
            refine o_assign rfl rfl ?_
            refine triL_nil ?_
            refine thenQ_normal ?_
            refine tri_seq ?_
            refine tri_slots [(9, _), (11, _), (0, _), (1, _), (5, _), (7, _), (10, _)] (.cons rfl (.cons rfl (.cons rfl (.cons rfl (.cons rfl (.cons rfl (.cons rfl (.nil _)))))))) ?_
            refine tri_region ?_
            refine o_move rfl rfl ?_
            refine o_move rfl rfl ?_
            refine o_loadA agg35 sz35 .z rfl rfl rfl rfl ?_
            refine o_callM [box b11 35 (stepV (l.getD q.i Stp.nil))] ((dkC j.1 (some ⟨j.2, 0, none⟩) 4 q.ca.1 q.ca.2 q.a) ++ (dkC k.1 (some ⟨k.2, 0, none⟩) 4 q.cb.1 q.cb.2 q.b)) [] (dkF j.1 (some ⟨j.2, 0, none⟩) q.ca.1 ++ dkF k.1 (some ⟨k.2, 0, none⟩) q.cb.1) rfl rfl rfl rfl Try.call28 (lend_two dk_lend dk_lend) (lend_two' dk_lend' dk_lend') (fun w1 h1 h2 => twiceL j.1 (some ⟨j.2, 0, none⟩) 4 q.ca.1 q.ca.2 q.a k.1 (some ⟨k.2, 0, none⟩) 4 q.cb.1 q.cb.2 q.b (l.getD q.i Stp.nil) w1 h2.cx hi.2.good (by have := hi.2.cache; omega) hi.2.goodb (by have := hi.2.cache; rw [← hi.2.al.2]; omega) (Stp.call (L := [box b11 35 (stepV (l.getD q.i Stp.nil))]) (D := ((dkC j.1 (some ⟨j.2, 0, none⟩) 4 q.ca.1 q.ca.2 q.a) ++ (dkC k.1 (some ⟨k.2, 0, none⟩) 4 q.cb.1 q.cb.2 q.b))) (R := []) (hst _ (getD_memS l q.i (by omega))) h1 (lend_two' dk_lend' dk_lend'))) (fun v _ => ?_)
            have hts := trip_step (x := (l.getD q.i Stp.nil)) hi.2 hn1.2 hfine (by omega)
            rw [hts.1]
            refine o_not rfl rfl ?_
            refine o_move rfl rfl ?_
            refine o_move rfl rfl ?_
            refine o_callP (first := []) (cap := []) rfl rfl rfl Try.call22 (fun w1 h1 => darkK j.1 (some ⟨j.2, 0, none⟩) 4 v.1.1 v.1.2 (q.a.ans (l.getD q.i Stp.nil)).2.2 w1 (h1.rd (RdS.box (i := 1) (.s .z)))) ?_
            rw [hts.2.1]
            refine o_pickF rfl rfl rfl rfl ?_
            refine triL_nil ?_
            refine thenQ_normal ?_
            refine tri_cond_false rfl ?_
            refine tri_skip ?_
            refine blockQ_normal ?_
            refine thenQ_normal ?_
            refine tri_slots [(9, _), (0, _), (1, _), (5, _), (7, _), (10, _)] (.cons rfl (.cons rfl (.cons rfl (.cons rfl (.cons rfl (.cons rfl (.nil _))))))) ?_
            refine tri_region ?_
            refine o_move rfl rfl ?_
            refine o_addN rfl rfl rfl (by omega) ?_
            refine o_assign rfl rfl ?_
            refine triL_nil ?_
            refine thenQ_normal ?_
            exact ⟨⟨q.i + 1, q.c + 1, (q.a.ans (l.getD q.i Stp.nil)).2.2, (q.b.ans (l.getD q.i Stp.nil)).2.2, v.1, v.2⟩, (.cons rfl (.cons rfl (.cons rfl (.cons rfl (.cons rfl (.cons rfl (.nil _))))))), (fun w1 hw => hw.tail), ⟨⟨by simp only; omega, by simp only; omega⟩, hts.2.2⟩, (by simp only; omega)⟩
      · skip
        refine tri_exit ?_
        refine thenQ_exit ?_
        refine thenQ_exit ?_
        refine blockQ_here ?_
        refine thenQ_normal ?_
        refine tri_seq ?_
        refine tri_seq ?_
        refine tri_slots [(5, _), (7, _)] (.cons rfl (.cons rfl (.nil _))) ?_
        refine tri_mixN (_) [(0, 2), (1, 1), (2, 2), (3, 1), (4, 2), (5, 2), (6, 2), (7, 1), (8, 2), (9, 1), (10, 2), (11, 2), (12, 2), (13, 2), (16, 2), (14, 0), (15, 1), (17, 0), (18, 0), (19, 2), (20, 2)] [14] (by kernel_rfl) (by kernel_rfl) (fun _ h => h) ?_
        refine mixN_free rfl ?_
        refine o_move rfl rfl ?_
        refine triL_nil ⟨rfl, ?_⟩
        refine mixN_fix rfl ?_
        refine o_callP (first := []) (cap := []) rfl rfl rfl Try.call23 (fun w1 h1 => countsK j.1 (some ⟨j.2, 0, none⟩) 4 q.ca.1 q.ca.2 q.a w1 (h1.rd (RdS.box (i := 0) .z))) ?_
        rw [hi.2.r, hi.2.w, hi.2.s]
        refine triL_nil ⟨rfl, ?_⟩
        refine mixN_free rfl ?_
        refine o_move rfl rfl ?_
        refine triL_nil ⟨rfl, ?_⟩
        refine mixN_fix rfl ?_
        refine o_callP (first := []) (cap := []) rfl rfl rfl Try.call23 (fun w1 h1 => countsK k.1 (some ⟨k.2, 0, none⟩) 4 q.cb.1 q.cb.2 q.b w1 (h1.rd (RdS.box (i := 3) (.s (.s (.s .z)))))) ?_
        refine triL_nil ⟨rfl, ?_⟩
        refine mixN_free rfl ?_
        refine o_neqAF flat47 rfl (same3 _ _ _) rfl rfl rfl ?_
        refine triL_nil ⟨rfl, ?_⟩
        refine mixN_free rfl ?_
        refine o_move rfl rfl ?_
        refine triL_nil ⟨rfl, ?_⟩
        refine mixN_free rfl ?_
        refine o_move rfl rfl ?_
        refine triL_nil ⟨rfl, ?_⟩
        refine mixN_fix rfl ?_
        refine o_callP (first := []) (cap := []) rfl rfl rfl Try.call16 (fun w1 h1 => pendingK j.1 (some ⟨j.2, 0, none⟩) 4 q.ca.1 q.ca.2 q.a w1 (h1.rd (RdS.box (i := 0) .z))) ?_
        refine triL_nil ⟨rfl, ?_⟩
        refine mixN_free rfl ?_
        refine o_move rfl rfl ?_
        refine triL_nil ⟨rfl, ?_⟩
        refine mixN_fix rfl ?_
        refine o_callP (first := []) (cap := []) rfl rfl rfl Try.call16 (fun w1 h1 => pendingK k.1 (some ⟨k.2, 0, none⟩) 4 q.cb.1 q.cb.2 q.b w1 (h1.rd (RdS.box (i := 3) (.s (.s (.s .z)))))) ?_
        refine triL_nil ⟨rfl, ?_⟩
        refine mixN_free rfl ?_
        refine o_neqIF (by rw [hi.2.al.2]) rfl rfl rfl ?_
        refine triL_nil ⟨rfl, ?_⟩
        refine mixN_free rfl ?_
        refine o_pickF rfl rfl rfl rfl ?_
        refine triL_nil ⟨rfl, ?_⟩
        refine mixN_free rfl ?_
        refine o_move rfl rfl ?_
        refine triL_nil ⟨rfl, ?_⟩
        refine mixN_free rfl ?_
        refine o_move rfl rfl ?_
        refine triL_nil ⟨rfl, ?_⟩
        refine mixN_free rfl ?_
        refine o_move rfl rfl ?_
        refine triL_nil ⟨rfl, ?_⟩
        refine mixN_op rfl rfl ?_
        refine o_callF (first := []) (cap := []) id rfl rfl rfl Try.call21 (fun w1 h1 => imageK j.1 (some ⟨j.2, 0, none⟩) 4 q.ca.1 q.ca.2 q.a w1 (h1.rd (RdS.box (i := 0) .z)) (h1.rd (RdS.row (i := 1) (.s .z))) hi.2.good) (fun A150 c150 => ?_)
        refine triL_nil ⟨rfl, ?_⟩
        refine mixN_fix rfl ?_
        refine o_toText (l := q.a.image) Try.underlying32 Try.underlying5 Try.underlying9 rfl rfl (RdS.row (i := 0) .z) rfl ?_
        refine triL_nil ⟨rfl, ?_⟩
        refine mixN_keep rfl rfl ?_
        refine o_callF (first := []) (cap := []) id rfl rfl rfl Try.call21 (fun w1 h1 => imageK k.1 (some ⟨k.2, 0, none⟩) 4 q.cb.1 q.cb.2 q.b w1 (h1.rd (RdS.box (i := 4) (.s (.s (.s (.s .z)))))) (h1.rd (RdS.row (i := 5) (.s (.s (.s (.s (.s .z))))))) hi.2.goodb) (fun A153 c153 => ?_)
        refine triL_nil ⟨rfl, fun _ h => h.tail, ?_⟩
        refine mixN_keep rfl rfl ?_
        refine o_toText (l := q.b.image) Try.underlying32 Try.underlying5 Try.underlying9 rfl rfl (RdS.row (i := 0) .z) rfl ?_
        refine triL_nil ⟨rfl, fun _ h => h.tail, ?_⟩
        refine mixN_free rfl ?_
        refine o_neqSame rfl rfl rfl (by rw [Dk.image, Dk.image, hi.2.al.1]) ?_
        refine triL_nil ⟨rfl, ?_⟩
        refine mixN_free rfl ?_
        refine o_pickF rfl rfl rfl rfl ?_
        refine triL_nil ⟨rfl, ?_⟩
        refine mixN_nil ?_
        refine thenQ_normal ?_
        refine tri_cond_false rfl ?_
        refine tri_skip ?_
        refine thenQ_normal ?_
        refine tri_seq ?_
        refine tri_slots [(5, _)] (.cons rfl (.nil _)) ?_
        refine tri_region ?_
        refine o_move rfl rfl ?_
        refine o_callM [row (.slice A153 q.b.image.length c153) 5 1 q.b.image.length (bytesV q.b.image), row (.slice A150 q.a.image.length c150) 5 1 q.a.image.length (bytesV q.a.image)] (dkC j.1 (some ⟨j.2, 0, none⟩) 4 q.ca.1 q.ca.2 q.a) (dkC k.1 (some ⟨k.2, 0, none⟩) 4 q.cb.1 q.cb.2 q.b) (dkF j.1 (some ⟨j.2, 0, none⟩) q.ca.1) rfl rfl rfl rfl Try.call17 dk_lend dk_lend' (fun w1 h1 h2 => cutK j.1 (some ⟨j.2, 0, none⟩) 4 q.ca.1 q.ca.2 q.a none 0 0 [] w1 h2.cx hi.2.good (by have := hi.2.cache; omega) (Keeps.nil _ _ _) rfl) (fun _ _ => ?_)
        have hcr := cut_read hi.2.len
        have hcg : (q.a.cutI []).good := by rw [Dk.cutI, if_neg hi.2.ne]; exact Dk.cut_good hi.2.good []
        have hcc : (q.a.cutI []).cache.length ≤ 100000 := by rw [cut_none hi.2.ne]; exact Nat.zero_le _
        refine triL_nil ?_
        refine thenQ_normal ?_
        refine tri_seq ?_
        refine tri_region ?_
        refine o_move rfl rfl ?_
        refine o_callM [row (.slice A153 q.b.image.length c153) 5 1 q.b.image.length (bytesV q.b.image), row (.slice A150 q.a.image.length c150) 5 1 q.a.image.length (bytesV q.a.image)] (dkC j.1 (some ⟨j.2, 0, none⟩) 4 q.ca.1 q.ca.2 (q.a.cutI [])) (dkC k.1 (some ⟨k.2, 0, none⟩) 4 q.cb.1 q.cb.2 q.b) (dkF j.1 (some ⟨j.2, 0, none⟩) q.ca.1) rfl rfl rfl rfl Try.call18 dk_lend dk_lend' (fun w1 h1 h2 => readK j.1 (some ⟨j.2, 0, none⟩) 4 q.ca.1 q.ca.2 (q.a.cutI []) 0 w1 h2.cx hcg hcc) (fun u _ => ?_)
        rw [hcr.2.1]
        refine o_move rfl rfl ?_
        refine o_extract rfl rfl rfl ?_
        refine o_extract rfl rfl rfl ?_
        refine o_assign rfl rfl ?_
        refine o_assign rfl rfl ?_
        refine triL_nil ?_
        refine thenQ_normal ?_
        refine tri_seq ?_
        refine tri_slots [(15, _), (5, _)] (.cons rfl (.cons rfl (.nil _))) ?_
        refine tri_region ?_
        refine o_move rfl rfl ?_
        refine o_callP (first := []) (cap := []) rfl rfl rfl Try.call22 (fun w1 h1 => darkK j.1 (some ⟨j.2, 0, none⟩) 4 q.ca.1 q.ca.2 ((q.a.cutI []).read 0).2.2 w1 (h1.rd (RdS.box (i := 3) (.s (.s (.s .z)))))) ?_
        rw [hcr.2.2]
        refine o_not rfl rfl ?_
        refine o_move rfl rfl ?_
        refine o_move rfl rfl ?_
        refine o_eqlIT rfl rfl rfl rfl ?_
        refine o_pickT rfl rfl rfl rfl ?_
        refine o_move rfl rfl ?_
        refine o_callP (first := []) (cap := []) rfl rfl rfl Try.call11 (fun w1 h1 => aliveL w1) ?_
        refine o_pickT rfl rfl rfl rfl ?_
        refine o_assign rfl rfl ?_
        refine triL_nil ?_
        refine thenQ_normal ?_
        refine tri_ret ?_
        refine end1 rfl rfl ?_
        exact fun w1 hw1 => ⟨rfl, hw1.chg⟩

theorem againBad (n : Int) (A : Option Addr) (ln c : Nat) (l : List Stp) (A2 : Option Addr) (ln2 c2 : Nat) (l2 : List Stp) (w : World) (hb : n < 1 ∨ 64 < n) (hr : Rd w A (stepsV l)) (hn : l.length = ln) (hst : ∀ s ∈ l, s.ok w []) (hsn : ∀ s ∈ l, s.n ≤ 140737488351232) (hr2 : Rd w A2 (stepsV l2)) (hn2 : l2.length = ln2) (hst2 : ∀ s ∈ l2, s.ok w []) : Calls Try.prog 8 #[.int .i64 n, .slice A ln c, .slice A2 ln2 c2] w (Pure w (.bool true)) := by
  refine calls_tri (args := [.int .i64 n, .slice A ln c, .slice A2 ln2 c2]) (lent := []) (H := []) Try.func8 rfl Try.ntmps8 rfl (Sat.start _ _ _ _) ?_
  refine (show Tri _ [(0, _), (1, _), (2, _)] _ _ _ from ?_)
  have hR : ∀ cx H, cx.w0 = w → cx.lent = [] → RdS cx H A (stepsV l) := fun cx H h1 h2 => RdS.arg (by rw [h1]; exact hr) h2
  have hR2 : ∀ cx H, cx.w0 = w → cx.lent = [] → RdS cx H A2 (stepsV l2) := fun cx H h1 h2 => RdS.arg (by rw [h1]; exact hr2) h2
  refine tri_seq ?_
  refine tri_region ?_
  refine o_assign rfl rfl ?_
  refine triL_nil ?_
  refine thenQ_normal ?_
  refine tri_seq ?_
  refine tri_seq ?_
  refine tri_region ?_
  refine o_move rfl rfl ?_
  refine o_lss rfl rfl rfl ?_
  refine o_move rfl rfl ?_
  refine' triL_or [_, _] [(0, _), (1, _), (2, _)] (dj := 17) (dr := 19) rfl rfl (fun g1 => ?_) ⟨_, rfl, rfl, rfl, (.cons rfl (.cons rfl (.cons rfl (.nil _))))⟩ rfl ?_
  rotate_left
  · skip
    skip
    refine o_move rfl rfl ?_
    refine o_gtr rfl rfl rfl ?_
    exact triL_nil (Piece.mk rfl rfl (.cons rfl (.cons rfl (.cons rfl (.nil _)))) (fun _ h => h))
  refine o_move rfl rfl ?_
  refine' triL_or [_, _] [(0, _), (1, _), (2, _)] (dj := 21) (dr := 23) rfl rfl (fun g2 => ?_) ⟨_, rfl, rfl, rfl, (.cons rfl (.cons rfl (.cons rfl (.nil _))))⟩ rfl ?_
  rotate_left
  · skip
    skip
    refine o_move rfl rfl ?_
    refine o_callP (first := []) (cap := []) rfl rfl rfl Try.call10 (fun w1 h1 => longL A ln c l w1 (h1.rd (hR _ _ rfl rfl)) hn) ?_
    exact triL_nil (Piece.mk rfl rfl (.cons rfl (.cons rfl (.cons rfl (.nil _)))) (fun _ h => h))
  refine o_move rfl rfl ?_
  refine' triL_or [_, _] [(0, _), (1, _), (2, _)] (dj := 25) (dr := 27) rfl rfl (fun g3 => ?_) ⟨_, rfl, rfl, rfl, (.cons rfl (.cons rfl (.cons rfl (.nil _))))⟩ rfl ?_
  rotate_left
  · skip
    skip
    refine o_move rfl rfl ?_
    refine o_callP (first := []) (cap := []) rfl rfl rfl Try.call10 (fun w1 h1 => longL A2 ln2 c2 l2 w1 (h1.rd (hR2 _ _ rfl rfl)) hn2) ?_
    exact triL_nil (Piece.mk rfl rfl (.cons rfl (.cons rfl (.cons rfl (.nil _)))) (fun _ h => h))
  refine triL_nil ?_
  refine thenQ_normal ?_
  refine tri_cond rfl (fun h0 => ?_) (fun h0 => ?_)
  · skip
    refine tri_seq ?_
    refine tri_slots [] (.nil _) ?_
    refine tri_region ?_
    refine o_callP (first := []) (cap := []) rfl rfl rfl Try.call11 (fun w1 h1 => aliveL w1) ?_
    refine o_assign rfl rfl ?_
    refine triL_nil ?_
    refine thenQ_normal ?_
    refine tri_ret ?_
    refine thenQ_ret ?_
    refine end1 rfl rfl ?_
    exact fun w1 hw1 => ⟨rfl, hw1.chg⟩
  · skip
    exfalso
    simp only [Bool.or_eq_false_iff, decide_eq_false_iff_not] at h0
    obtain ⟨⟨⟨h1, h2⟩, _⟩, _⟩ := h0
    omega

structure PS where
  i : Nat
  d : Dk
  a : Option Addr × Nat
  m : Rk

theorem again (n : Nat) (A : Option Addr) (ln c : Nat) (l : List Stp) (A2 : Option Addr) (ln2 c2 : Nat) (l2 : List Stp) (w : World) (h1 : 1 ≤ n) (h2 : n ≤ 64) (hr : Rd w A (stepsV l)) (hn : l.length = ln) (hst : ∀ s ∈ l, s.ok w []) (hsn : ∀ s ∈ l, s.n ≤ 140737488351232) (hr2 : Rd w A2 (stepsV l2)) (hn2 : l2.length = ln2) (hst2 : ∀ s ∈ l2, s.ok w []) : Calls Try.prog 8 #[.int .i64 (n : Int), .slice A ln c, .slice A2 ln2 c2] w (Pure w (.bool true)) := by
  refine calls_tri (args := [.int .i64 (n : Int), .slice A ln c, .slice A2 ln2 c2]) (lent := []) (H := []) Try.func8 rfl Try.ntmps8 rfl (Sat.start _ _ _ _) ?_
  refine (show Tri _ [(0, _), (1, _), (2, _)] _ _ _ from ?_)
  have hR : ∀ cx H, cx.w0 = w → cx.lent = [] → RdS cx H A (stepsV l) := fun cx H h1 h2 => RdS.arg (by rw [h1]; exact hr) h2
  have hR2 : ∀ cx H, cx.w0 = w → cx.lent = [] → RdS cx H A2 (stepsV l2) := fun cx H h1 h2 => RdS.arg (by rw [h1]; exact hr2) h2
  refine tri_seq ?_
  refine tri_region ?_
  refine o_assign rfl rfl ?_
  refine triL_nil ?_
  refine thenQ_normal ?_
  refine tri_seq ?_
  refine tri_seq ?_
  refine tri_region ?_
  refine o_move rfl rfl ?_
  refine o_lss rfl rfl rfl ?_
  refine o_move rfl rfl ?_
  refine' triL_or [_, _] [(0, _), (1, _), (2, _)] (dj := 17) (dr := 19) rfl rfl (fun g1 => ?_) ⟨_, rfl, rfl, rfl, (.cons rfl (.cons rfl (.cons rfl (.nil _))))⟩ rfl ?_
  rotate_left
  · skip
    skip
    refine o_move rfl rfl ?_
    refine o_gtr rfl rfl rfl ?_
    exact triL_nil (Piece.mk rfl rfl (.cons rfl (.cons rfl (.cons rfl (.nil _)))) (fun _ h => h))
  refine o_move rfl rfl ?_
  refine' triL_or [_, _] [(0, _), (1, _), (2, _)] (dj := 21) (dr := 23) rfl rfl (fun g2 => ?_) ⟨_, rfl, rfl, rfl, (.cons rfl (.cons rfl (.cons rfl (.nil _))))⟩ rfl ?_
  rotate_left
  · skip
    skip
    refine o_move rfl rfl ?_
    refine o_callP (first := []) (cap := []) rfl rfl rfl Try.call10 (fun w1 h1 => longL A ln c l w1 (h1.rd (hR _ _ rfl rfl)) hn) ?_
    exact triL_nil (Piece.mk rfl rfl (.cons rfl (.cons rfl (.cons rfl (.nil _)))) (fun _ h => h))
  refine o_move rfl rfl ?_
  refine' triL_or [_, _] [(0, _), (1, _), (2, _)] (dj := 25) (dr := 27) rfl rfl (fun g3 => ?_) ⟨_, rfl, rfl, rfl, (.cons rfl (.cons rfl (.cons rfl (.nil _))))⟩ rfl ?_
  rotate_left
  · skip
    skip
    refine o_move rfl rfl ?_
    refine o_callP (first := []) (cap := []) rfl rfl rfl Try.call10 (fun w1 h1 => longL A2 ln2 c2 l2 w1 (h1.rd (hR2 _ _ rfl rfl)) hn2) ?_
    exact triL_nil (Piece.mk rfl rfl (.cons rfl (.cons rfl (.cons rfl (.nil _)))) (fun _ h => h))
  refine triL_nil ?_
  refine thenQ_normal ?_
  refine tri_cond rfl (fun h0 => ?_) (fun h0 => ?_)
  · skip
    refine tri_seq ?_
    refine tri_slots [] (.nil _) ?_
    refine tri_region ?_
    refine o_callP (first := []) (cap := []) rfl rfl rfl Try.call11 (fun w1 h1 => aliveL w1) ?_
    refine o_assign rfl rfl ?_
    refine triL_nil ?_
    refine thenQ_normal ?_
    refine tri_ret ?_
    refine thenQ_ret ?_
    refine end1 rfl rfl ?_
    exact fun w1 hw1 => ⟨rfl, hw1.chg⟩
  · skip
    have h0' : longB l = false ∧ longB l2 = false := by
      simp only [Bool.or_eq_false_iff, decide_eq_false_iff_not] at h0
      exact ⟨h0.1.2, h0.2⟩
    obtain ⟨hl1, hl2⟩ := longB_false h0'.1
    obtain ⟨hl3, hl4⟩ := longB_false h0'.2
    refine tri_skip ?_
    refine thenQ_normal ?_
    refine tri_seq ?_
    refine tri_region ?_
    refine o_move rfl rfl ?_
    refine o_callM [] [] [] [] rfl rfl rfl rfl Try.call9 (fun c hc => by cases hc) (fun c hc => by cases hc) (fun w1 _ _ => newK n w1 h1 (by omega)) (fun j _ => ?_)
    refine o_move rfl rfl ?_
    refine o_extract rfl rfl rfl ?_
    refine o_extract rfl rfl rfl ?_
    refine o_assign rfl rfl ?_
    refine o_assign rfl rfl ?_
    refine triL_nil ?_
    refine thenQ_normal ?_
    refine tri_seq ?_
    refine tri_slots [(8, _), (7, _), (0, _), (1, _), (2, _)] (.cons rfl (.cons rfl (.cons rfl (.cons rfl (.cons rfl (.nil _)))))) ?_
    refine tri_region ?_
    refine o_move rfl rfl ?_
    refine o_callM (dkC j.1 (some ⟨j.2, 0, none⟩) n none 0 (Dk.new n)) [] [] [] rfl rfl rfl rfl Try.call24 (fun c hc => by cases hc) (fun c hc => by cases hc) (fun w1 _ _ => newR n w1 h1 (by omega)) (fun k hk => ?_)
    refine o_assign rfl rfl ?_
    refine triL_nil ?_
    refine thenQ_normal ?_
    refine tri_seq ?_
    refine tri_seq ?_
    refine tri_region ?_
    refine o_move rfl rfl ?_
    refine o_neqI rfl rfl rfl ?_
    refine o_move rfl rfl ?_
    refine' triL_or [_, _] [(9, _), (7, _), (0, _), (1, _), (2, _)] (dj := 39) (dr := 41) rfl rfl (fun g4 => ?_) ⟨_, rfl, rfl, rfl, (.cons rfl (.cons rfl (.cons rfl (.cons rfl (.cons rfl (.nil _))))))⟩ rfl ?_
    rotate_left
    · skip
      skip
      refine o_move rfl rfl ?_
      refine o_eqlNil Try.underlying24 rfl rfl rfl ?_
      exact triL_nil (Piece.mk rfl rfl (.cons rfl (.cons rfl (.cons rfl (.cons rfl (.cons rfl (.nil _)))))) (fun _ h => h))
    refine triL_nil ?_
    refine thenQ_normal ?_
    refine tri_cond rfl (fun h0 => ?_) (fun h0 => ?_)
    · skip
      exact absurd h0 (by simp)
    · skip
      refine tri_skip ?_
      refine thenQ_normal ?_
      refine tri_seq ?_
      refine tri_seq ?_
      refine tri_region ?_
      refine o_assign rfl rfl ?_
      refine triL_nil ?_
      refine thenQ_normal ?_
      refine tri_block ?_
      refine tri_loop (ι := PS) (F := fun q => [(0, .int .i64 (n : Int)), (1, .slice A ln c), (2, .slice A2 ln2 c2), (7, .pointer (some ⟨j.1, 0, none⟩)), (9, .pointer (some ⟨k.1, 0, none⟩)), (10, .int .i64 (q.i : Int))]) (HH := fun q => ((dkC j.1 (some ⟨j.2, 0, none⟩) n q.a.1 q.a.2 q.d) ++ rkC k.1 q.m q.d)) (Pu := fun q => q.i ≤ ln ∧ q.d.good ∧ q.m.ok q.d ∧ q.d.kept.length = n ∧ q.d.cache.length ≤ q.i) (μ := fun q => ln - q.i) (⟨0, Dk.new n, (none, 0), k.2⟩) (.cons rfl (.cons rfl (.cons rfl (.cons rfl (.cons rfl (.cons rfl (.nil _))))))) (fun _ h => h) (⟨Nat.zero_le _, Dk.new_good n (by omega), hk, List.length_replicate, Nat.zero_le _⟩) (fun q hi => ?_)
      refine tri_seq ?_
      refine tri_seq ?_
      refine tri_region ?_
      refine o_move rfl rfl ?_
      refine o_move rfl rfl ?_
      refine o_lenS Try.underlying22 rfl rfl ?_
      refine o_lss rfl rfl rfl ?_
      refine triL_nil ?_
      refine thenQ_normal ?_
      refine tri_if rfl (fun h3 => ?_) (fun h3 => ?_)
      · skip
        refine tri_skip ?_
        refine thenQ_normal ?_
        refine tri_seq ?_
        refine tri_block ?_
        refine tri_slots [(0, _), (1, _), (2, _), (7, _), (9, _), (10, _)] (.cons rfl (.cons rfl (.cons rfl (.cons rfl (.cons rfl (.cons rfl (.nil _))))))) ?_
        refine tri_region ?_
        refine o_move rfl rfl ?_
        refine o_move rfl rfl ?_
        refine o_move rfl rfl ?_
        refine o_move rfl rfl ?_
        refine o_idxS Try.underlying22 sz35 rfl rfl rfl (hR _ _ rfl rfl) (by omega) (by omega) (by rw [steps_length, hn]) (by decide) ?_
        refine o_loadRA agg35 sz35 rfl rfl (hR _ _ rfl rfl) (steps_at l q.i (by omega)) rfl (by decide) ?_
        refine o_callM [] ((dkC j.1 (some ⟨j.2, 0, none⟩) n q.a.1 q.a.2 q.d) ++ rkC k.1 q.m q.d) [] (dkF j.1 (some ⟨j.2, 0, none⟩) q.a.1 ++ rkF k.1 q.m) rfl rfl rfl rfl Try.call25 (lend_two dk_lend rk_lend) (lend_two' dk_lend' rk_lend') (fun w1 h1 h2 => doesL j.1 (some ⟨j.2, 0, none⟩) n q.a.1 q.a.2 k.1 q.m q.d (l.getD q.i Stp.nil) w1 h2.cx hi.2.2.1 hi.2.1 (by omega) (ne_nil hi.2.2.2.1 (by omega)) (Stp.call (L := []) (D := ((dkC j.1 (some ⟨j.2, 0, none⟩) n q.a.1 q.a.2 q.d) ++ rkC k.1 q.m q.d)) (R := []) (hst _ (getD_memS l q.i (by omega))) h1 (lend_two' dk_lend' rk_lend')) (hsn _ (getD_memS l q.i (by omega)))) (fun v hv => ?_)
        refine triL_nil ?_
        refine blockQ_normal ?_
        refine thenQ_normal ?_
        refine tri_slots [(0, _), (1, _), (2, _), (7, _), (9, _), (10, _)] (.cons rfl (.cons rfl (.cons rfl (.cons rfl (.cons rfl (.cons rfl (.nil _))))))) ?_
        refine tri_region ?_
        refine o_move rfl rfl ?_
        refine o_addN rfl rfl rfl (by omega) ?_
        refine o_assign rfl rfl ?_
        refine triL_nil ?_
        refine thenQ_normal ?_
        exact ⟨⟨q.i + 1, q.d.step (l.getD q.i Stp.nil), v.1, v.2⟩, (.cons rfl (.cons rfl (.cons rfl (.cons rfl (.cons rfl (.cons rfl (.nil _))))))), fun _ h => h, ⟨by simp only; omega, Dk.step_good hi.2.1 _, hv, by rw [Dk.step_kept]; exact hi.2.2.2.1, by have := Dk.step_cache q.d (l.getD q.i Stp.nil); simp only; omega⟩, (by simp only; omega)⟩
      · skip
        have hil : q.d.image.length = n * 512 := by rw [Dk.image_len hi.2.1, hi.2.2.2.1]
        refine tri_exit ?_
        refine thenQ_exit ?_
        refine thenQ_exit ?_
        refine blockQ_here ?_
        refine thenQ_normal ?_
        refine tri_seq ?_
        refine tri_slots [(0, _), (2, _), (7, _)] (.cons rfl (.cons rfl (.cons rfl (.nil _)))) ?_
        refine tri_region ?_
        refine o_move rfl rfl ?_
        refine o_callF (first := []) (cap := []) id rfl rfl rfl Try.call21 (fun w1 h1 => imageK j.1 (some ⟨j.2, 0, none⟩) n q.a.1 q.a.2 q.d w1 (h1.rd (RdS.box (i := 0) .z)) (h1.rd (RdS.row (i := 1) (.s .z))) hi.2.1) (fun A58 c58 => ?_)
        refine TriX.know (fun w1 h1 => own_cap (h1.holds _ List.mem_cons_self)) (fun hc58 => ?_)
        refine o_callM ([row (.slice A58 q.d.image.length c58) 5 1 q.d.image.length (bytesV q.d.image)] ++ ((dkC j.1 (some ⟨j.2, 0, none⟩) n q.a.1 q.a.2 q.d) ++ rkC k.1 q.m q.d)) [] [] [] rfl rfl rfl rfl Try.call19 (fun c hc => by cases hc) (fun c hc => by cases hc) (fun w1 h9 _ => loadK A58 q.d.image.length c58 q.d.image n w1 (h9.rd (RdS.row (i := 0) .z)) rfl hc58 (by omega) hil h1 (by omega)) (fun o _ => ?_)
        refine o_move rfl rfl ?_
        refine o_extract rfl rfl rfl ?_
        refine o_extract rfl rfl rfl ?_
        refine o_assign rfl rfl ?_
        refine o_assign rfl rfl ?_
        refine triL_nil ?_
        refine thenQ_normal ?_
        refine tri_seq ?_
        refine tri_seq ?_
        refine tri_slots [(12, _), (11, _), (0, _), (2, _), (7, _)] (.cons rfl (.cons rfl (.cons rfl (.cons rfl (.cons rfl (.nil _)))))) ?_
        refine tri_region ?_
        refine o_move rfl rfl ?_
        refine o_neqI rfl rfl rfl ?_
        refine o_move rfl rfl ?_
        refine' triL_or [_, _] [(11, _), (0, _), (2, _), (7, _)] (dj := 64) (dr := 66) rfl rfl (fun g5 => ?_) ⟨_, rfl, rfl, rfl, (.cons rfl (.cons rfl (.cons rfl (.cons rfl (.nil _)))))⟩ rfl ?_
        rotate_left
        · skip
          skip
          refine o_move rfl rfl ?_
          refine o_eqlNil Try.underlying24 rfl rfl rfl ?_
          exact triL_nil (Piece.mk rfl rfl (.cons rfl (.cons rfl (.cons rfl (.cons rfl (.nil _))))) (fun _ h => h))
        refine triL_nil ?_
        refine thenQ_normal ?_
        refine tri_cond rfl (fun h0 => ?_) (fun h0 => ?_)
        · skip
          exact absurd h0 (by simp)
        · skip
          refine tri_skip ?_
          refine thenQ_normal ?_
          refine tri_seq ?_
          refine tri_region ?_
          refine o_move rfl rfl ?_
          refine o_callM [row (.slice A58 q.d.image.length c58) 5 1 q.d.image.length (bytesV q.d.image)] (dkC j.1 (some ⟨j.2, 0, none⟩) n q.a.1 q.a.2 q.d) (rkC k.1 q.m q.d ++ (dkC o.1 (some ⟨o.2, 0, none⟩) n none 0 (Dk.load q.d.image n))) (dkF j.1 (some ⟨j.2, 0, none⟩) q.a.1) rfl rfl rfl rfl Try.call17 dk_lend dk_lend' (fun w1 h1 h2 => cutK j.1 (some ⟨j.2, 0, none⟩) n q.a.1 q.a.2 q.d none 0 0 [] w1 h2.cx hi.2.1 (by omega) (Keeps.nil _ _ _) rfl) (fun _ _ => ?_)
          refine triL_nil ?_
          refine thenQ_normal ?_
          refine tri_seq ?_
          refine tri_seq ?_
          refine tri_region ?_
          refine o_assign rfl rfl ?_
          refine triL_nil ?_
          refine thenQ_normal ?_
          refine tri_block ?_
          refine tri_loop (ι := TS) (F := fun p => [(0, .int .i64 (n : Int)), (2, .slice A2 ln2 c2), (7, .pointer (some ⟨j.1, 0, none⟩)), (11, .pointer (some ⟨o.1, 0, none⟩)), (13, .int .i64 (p.i : Int))]) (HH := fun p => ((dkC j.1 (some ⟨j.2, 0, none⟩) n p.ca.1 p.ca.2 p.a) ++ (dkC o.1 (some ⟨o.2, 0, none⟩) n p.cb.1 p.cb.2 p.b))) (Pu := fun p => (p.i ≤ ln2 ∧ p.c = 0) ∧ Again n p.i p.a p.b) (μ := fun p => ln2 - p.i) (⟨0, 0, q.d.cutI [], Dk.load q.d.image n, q.a, (none, 0)⟩) (.cons rfl (.cons rfl (.cons rfl (.cons rfl (.cons rfl (.nil _)))))) (fun _ h => h.sublist (List.Sublist.cons _ (List.Sublist.cons_cons _ (List.Sublist.cons_cons _ (List.Sublist.cons_cons _ (List.Sublist.cons _ (List.Sublist.cons _ (List.Sublist.cons _ (List.Sublist.cons _ (List.Sublist.refl _)))))))))) (⟨⟨Nat.zero_le _, rfl⟩, again_start hi.2.1 hi.2.2.2.1 h1 (by omega)⟩) (fun p hp => ?_)
          refine tri_seq ?_
          refine tri_seq ?_
          refine tri_region ?_
          refine o_move rfl rfl ?_
          refine o_move rfl rfl ?_
          refine o_lenS Try.underlying22 rfl rfl ?_
          refine o_lss rfl rfl rfl ?_
          refine triL_nil ?_
          refine thenQ_normal ?_
          refine tri_if rfl (fun h4 => ?_) (fun h4 => ?_)
          · skip
            refine tri_skip ?_
            refine thenQ_normal ?_
            refine tri_seq ?_
            refine tri_block ?_
            refine tri_seq ?_
            refine tri_slots [(0, _), (2, _), (7, _), (11, _), (13, _)] (.cons rfl (.cons rfl (.cons rfl (.cons rfl (.cons rfl (.nil _)))))) ?_
            refine tri_region ?_
            refine o_move rfl rfl ?_
            refine o_move rfl rfl ?_
            refine o_idxS Try.underlying22 sz35 rfl rfl rfl (hR2 _ _ rfl rfl) (by omega) (by omega) (by rw [steps_length, hn2]) (by decide) ?_
            refine o_loadRA agg35 sz35 rfl rfl (hR2 _ _ rfl rfl) (steps_at l2 p.i (by omega)) rfl (by decide) ?_
            refine o_alloc _ rfl zero35 rfl (fun b14 => ?_)
            refine o_storeW sz35 .z rfl rfl rfl rfl rfl rfl (allOne_spec rfl) ?_
            refine triL_nil ?_
            refine thenQ_normal ?_
            refine tri_seq ?_
            refine tri_seq ?_
            refine tri_slots [(14, _), (0, _), (2, _), (7, _), (11, _), (13, _)] (.cons rfl (.cons rfl (.cons rfl (.cons rfl (.cons rfl (.cons rfl (.nil _))))))) ?_
            refine tri_region ?_
            refine o_field fo35_0 rfl rfl ?_
            refine o_load agg3 (by first | exact Nth.z | exact .s .z | exact .s (.s .z) | exact .s (.s (.s .z)) | exact .s (.s (.s (.s .z))) | exact .s (.s (.s (.s (.s .z)))) | exact .s (.s (.s (.s (.s (.s .z))))) | exact .s (.s (.s (.s (.s (.s (.s .z))))))) rfl rfl rfl ?_
            refine o_eqlI rfl rfl rfl ?_
            refine o_move rfl rfl ?_
            refine' triL_or [_, _, _] [(14, _), (0, _), (2, _), (7, _), (11, _), (13, _)] (dj := 83) (dr := 86) rfl rfl (fun g6 => ?_) ⟨_, rfl, rfl, rfl, (.cons rfl (.cons rfl (.cons rfl (.cons rfl (.cons rfl (.cons rfl (.nil _)))))))⟩ rfl ?_
            rotate_left
            · skip
              skip
              refine o_field fo35_0 rfl rfl ?_
              refine o_load agg3 (by first | exact Nth.z | exact .s .z | exact .s (.s .z) | exact .s (.s (.s .z)) | exact .s (.s (.s (.s .z))) | exact .s (.s (.s (.s (.s .z)))) | exact .s (.s (.s (.s (.s (.s .z))))) | exact .s (.s (.s (.s (.s (.s (.s .z))))))) rfl rfl rfl ?_
              refine o_eqlI rfl rfl rfl ?_
              exact triL_nil (Piece.mk rfl rfl (.cons rfl (.cons rfl (.cons rfl (.cons rfl (.cons rfl (.cons rfl (.nil _))))))) (fun _ h => h))
            refine triL_nil ?_
            refine thenQ_normal ?_
            refine tri_cond rfl (fun h5 => ?_) (fun h5 => ?_)
            · skip
              refine tri_exit ?_
              refine thenQ_exit ?_
              refine blockQ_here ?_
              refine thenQ_normal ?_
              refine tri_region ?_
              refine o_move rfl rfl ?_
              refine o_addN rfl rfl rfl (by omega) ?_
              refine o_assign rfl rfl ?_
              refine triL_nil ?_
              refine thenQ_normal ?_
              exact ⟨⟨p.i + 1, 0, p.a, p.b, p.ca, p.cb⟩, (.cons rfl (.cons rfl (.cons rfl (.cons rfl (.cons rfl (.nil _)))))), (fun w1 hw => hw.tail), ⟨⟨by simp only; omega, rfl⟩, hp.2.mono⟩, (by simp only; omega)⟩
            · skip
              refine tri_skip ?_
              refine thenQ_normal ?_
              refine tri_seq ?_
              refine tri_seq ?_
              refine tri_region ?_
              refine o_field fo35_0 rfl rfl ?_
              refine o_load agg3 (by first | exact Nth.z | exact .s .z | exact .s (.s .z) | exact .s (.s (.s .z)) | exact .s (.s (.s (.s .z))) | exact .s (.s (.s (.s (.s .z)))) | exact .s (.s (.s (.s (.s (.s .z))))) | exact .s (.s (.s (.s (.s (.s (.s .z))))))) rfl rfl rfl ?_
              refine o_eqlI rfl rfl rfl ?_
              refine o_move rfl rfl ?_
              refine' triL_or [_, _, _] [(14, _), (0, _), (2, _), (7, _), (11, _), (13, _)] (dj := 91) (dr := 94) rfl rfl (fun g7 => ?_) ⟨_, rfl, rfl, rfl, (.cons rfl (.cons rfl (.cons rfl (.cons rfl (.cons rfl (.cons rfl (.nil _)))))))⟩ rfl ?_
              rotate_left
              · skip
                skip
                refine o_field fo35_0 rfl rfl ?_
                refine o_load agg3 (by first | exact Nth.z | exact .s .z | exact .s (.s .z) | exact .s (.s (.s .z)) | exact .s (.s (.s (.s .z))) | exact .s (.s (.s (.s (.s .z)))) | exact .s (.s (.s (.s (.s (.s .z))))) | exact .s (.s (.s (.s (.s (.s (.s .z))))))) rfl rfl rfl ?_
                refine o_eqlI rfl rfl rfl ?_
                exact triL_nil (Piece.mk rfl rfl (.cons rfl (.cons rfl (.cons rfl (.cons rfl (.cons rfl (.cons rfl (.nil _))))))) (fun _ h => h))
              refine o_move rfl rfl ?_
              refine' triL_and [_, _, _, _, _, _, _, _, _, _, _, _, _, _, _, _, _, _, _, _] [(14, _), (0, _), (2, _), (7, _), (11, _), (13, _)] (dj := 96) (dr := 116) rfl rfl (fun g8 => ?_) ⟨_, rfl, rfl, rfl, (.cons rfl (.cons rfl (.cons rfl (.cons rfl (.cons rfl (.cons rfl (.nil _)))))))⟩ rfl ?_
              rotate_left
              · skip
                skip
                refine o_field fo35_1 rfl rfl ?_
                refine o_load agg3 (by first | exact Nth.z | exact .s .z | exact .s (.s .z) | exact .s (.s (.s .z)) | exact .s (.s (.s (.s .z))) | exact .s (.s (.s (.s (.s .z)))) | exact .s (.s (.s (.s (.s (.s .z))))) | exact .s (.s (.s (.s (.s (.s (.s .z))))))) rfl rfl rfl ?_
                refine o_lss rfl rfl rfl ?_
                refine o_move rfl rfl ?_
                refine' triL_or [_, _, _, _] [(96, _), (14, _), (0, _), (2, _), (7, _), (11, _), (13, _)] (dj := 100) (dr := 104) rfl rfl (fun g9 => ?_) ⟨_, rfl, rfl, rfl, (.cons rfl (.cons rfl (.cons rfl (.cons rfl (.cons rfl (.cons rfl (.cons rfl (.nil _))))))))⟩ rfl ?_
                rotate_left
                · skip
                  skip
                  refine o_field fo35_1 rfl rfl ?_
                  refine o_load agg3 (by first | exact Nth.z | exact .s .z | exact .s (.s .z) | exact .s (.s (.s .z)) | exact .s (.s (.s (.s .z))) | exact .s (.s (.s (.s (.s .z)))) | exact .s (.s (.s (.s (.s (.s .z))))) | exact .s (.s (.s (.s (.s (.s (.s .z))))))) rfl rfl rfl ?_
                  refine o_move rfl rfl ?_
                  refine o_geq rfl rfl rfl ?_
                  exact triL_nil (Piece.mk rfl rfl (.cons rfl (.cons rfl (.cons rfl (.cons rfl (.cons rfl (.cons rfl (.cons rfl (.nil _)))))))) (fun _ h => h))
                refine o_move rfl rfl ?_
                refine' triL_or [_, _, _, _, _, _, _, _, _] [(96, _), (14, _), (0, _), (2, _), (7, _), (11, _), (13, _)] (dj := 106) (dr := 115) rfl rfl (fun g10 => ?_) ⟨_, rfl, rfl, rfl, (.cons rfl (.cons rfl (.cons rfl (.cons rfl (.cons rfl (.cons rfl (.cons rfl (.nil _))))))))⟩ rfl ?_
                rotate_left
                · skip
                  skip
                  refine o_field fo35_0 rfl rfl ?_
                  refine o_load agg3 (by first | exact Nth.z | exact .s .z | exact .s (.s .z) | exact .s (.s (.s .z)) | exact .s (.s (.s (.s .z))) | exact .s (.s (.s (.s (.s .z)))) | exact .s (.s (.s (.s (.s (.s .z))))) | exact .s (.s (.s (.s (.s (.s (.s .z))))))) rfl rfl rfl ?_
                  refine o_eqlI rfl rfl rfl ?_
                  refine o_move rfl rfl ?_
                  refine' triL_and [_, _, _, _] [(106, _), (96, _), (14, _), (0, _), (2, _), (7, _), (11, _), (13, _)] (dj := 110) (dr := 114) rfl rfl (fun g11 => ?_) ⟨_, rfl, rfl, rfl, (.cons rfl (.cons rfl (.cons rfl (.cons rfl (.cons rfl (.cons rfl (.cons rfl (.cons rfl (.nil _)))))))))⟩ rfl ?_
                  rotate_left
                  · skip
                    skip
                    refine o_field fo35_2 rfl rfl ?_
                    refine o_load agg32 (by first | exact Nth.z | exact .s .z | exact .s (.s .z) | exact .s (.s (.s .z)) | exact .s (.s (.s (.s .z))) | exact .s (.s (.s (.s (.s .z)))) | exact .s (.s (.s (.s (.s (.s .z))))) | exact .s (.s (.s (.s (.s (.s (.s .z))))))) rfl rfl rfl ?_
                    refine o_lenS Try.underlying32 rfl rfl ?_
                    refine o_neqI rfl rfl rfl ?_
                    exact triL_nil (Piece.mk rfl rfl (.cons rfl (.cons rfl (.cons rfl (.cons rfl (.cons rfl (.cons rfl (.cons rfl (.cons rfl (.nil _))))))))) (fun _ h => h))
                  exact triL_nil (Piece.mk rfl rfl (.cons rfl (.cons rfl (.cons rfl (.cons rfl (.cons rfl (.cons rfl (.cons rfl (.nil _)))))))) (fun _ h => h))
                exact triL_nil (Piece.mk rfl rfl (.cons rfl (.cons rfl (.cons rfl (.cons rfl (.cons rfl (.cons rfl (.nil _))))))) (fun _ h => h))
              refine o_move rfl rfl ?_
              refine' triL_or [_, _, _] [(14, _), (0, _), (2, _), (7, _), (11, _), (13, _)] (dj := 118) (dr := 121) rfl rfl (fun g12 => ?_) ⟨_, rfl, rfl, rfl, (.cons rfl (.cons rfl (.cons rfl (.cons rfl (.cons rfl (.cons rfl (.nil _)))))))⟩ rfl ?_
              rotate_left
              · skip
                skip
                refine o_field fo35_0 rfl rfl ?_
                refine o_load agg3 (by first | exact Nth.z | exact .s .z | exact .s (.s .z) | exact .s (.s (.s .z)) | exact .s (.s (.s (.s .z))) | exact .s (.s (.s (.s (.s .z)))) | exact .s (.s (.s (.s (.s (.s .z))))) | exact .s (.s (.s (.s (.s (.s (.s .z))))))) rfl rfl rfl ?_
                refine o_lss rfl rfl rfl ?_
                exact triL_nil (Piece.mk rfl rfl (.cons rfl (.cons rfl (.cons rfl (.cons rfl (.cons rfl (.cons rfl (.nil _))))))) (fun _ h => h))
              refine o_move rfl rfl ?_
              refine' triL_or [_, _, _] [(14, _), (0, _), (2, _), (7, _), (11, _), (13, _)] (dj := 123) (dr := 126) rfl rfl (fun g13 => ?_) ⟨_, rfl, rfl, rfl, (.cons rfl (.cons rfl (.cons rfl (.cons rfl (.cons rfl (.cons rfl (.nil _)))))))⟩ rfl ?_
              rotate_left
              · skip
                skip
                refine o_field fo35_0 rfl rfl ?_
                refine o_load agg3 (by first | exact Nth.z | exact .s .z | exact .s (.s .z) | exact .s (.s (.s .z)) | exact .s (.s (.s (.s .z))) | exact .s (.s (.s (.s (.s .z)))) | exact .s (.s (.s (.s (.s (.s .z))))) | exact .s (.s (.s (.s (.s (.s (.s .z))))))) rfl rfl rfl ?_
                refine o_gtr rfl rfl rfl ?_
                exact triL_nil (Piece.mk rfl rfl (.cons rfl (.cons rfl (.cons rfl (.cons rfl (.cons rfl (.cons rfl (.nil _))))))) (fun _ h => h))
              refine triL_nil ?_
              refine thenQ_normal ?_
              refine tri_cond rfl (fun h6 => ?_) (fun h6 => ?_)
              · skip
                refine tri_exit ?_
                refine thenQ_exit ?_
                refine blockQ_here ?_
                refine thenQ_normal ?_
                refine tri_region ?_
                refine o_move rfl rfl ?_
                refine o_addN rfl rfl rfl (by omega) ?_
                refine o_assign rfl rfl ?_
                refine triL_nil ?_
                refine thenQ_normal ?_
                exact ⟨⟨p.i + 1, 0, p.a, p.b, p.ca, p.cb⟩, (.cons rfl (.cons rfl (.cons rfl (.cons rfl (.cons rfl (.nil _)))))), (fun w1 hw => hw.tail), ⟨⟨by simp only; omega, rfl⟩, hp.2.mono⟩, (by simp only; omega)⟩
              · skip
                have hfine : fineP n (l2.getD p.i Stp.nil) := by
                  have hl0 := (hst2 _ (getD_memS l2 p.i (by omega))).2.1
                  simp only [Bool.or_eq_false_iff, Bool.and_eq_false_iff, decide_eq_false_iff_not] at h5 h6
                  unfold fineP
                  obtain ⟨⟨h7, h8⟩, h9⟩ := h6
                  by_cases hd2 : (l2.getD p.i Stp.nil).dob = 2
                  · exact .inl hd2
                  · have hd : (l2.getD p.i Stp.nil).dob = 0 ∨ (l2.getD p.i Stp.nil).dob = 1 := by omega
                    rcases h7 with h7 | ⟨⟨h10, h11⟩, h12⟩
                    · omega
                    · refine .inr ⟨hd, by omega, by omega, ?_⟩
                      rcases h12 with h12 | h12
                      · left; omega
                      · right; omega
                refine tri_skip ?_
                refine thenQ_normal ?_
                refine tri_seq ?_
                refine tri_region ?_
                refine o_move rfl rfl ?_
                refine o_move rfl rfl ?_
                refine o_loadA agg35 sz35 .z rfl rfl rfl rfl ?_
                refine o_callM [box b14 35 (stepV (l2.getD p.i Stp.nil))] ((dkC j.1 (some ⟨j.2, 0, none⟩) n p.ca.1 p.ca.2 p.a) ++ (dkC o.1 (some ⟨o.2, 0, none⟩) n p.cb.1 p.cb.2 p.b)) [] (dkF j.1 (some ⟨j.2, 0, none⟩) p.ca.1 ++ dkF o.1 (some ⟨o.2, 0, none⟩) p.cb.1) rfl rfl rfl rfl Try.call28 (lend_two dk_lend dk_lend) (lend_two' dk_lend' dk_lend') (fun w1 h1 h2 => twiceL j.1 (some ⟨j.2, 0, none⟩) n p.ca.1 p.ca.2 p.a o.1 (some ⟨o.2, 0, none⟩) n p.cb.1 p.cb.2 p.b (l2.getD p.i Stp.nil) w1 h2.cx hp.2.good (by have := hp.2.cache; omega) hp.2.goodb (by have := hp.2.cache; rw [← hp.2.al.2]; omega) (Stp.call (L := [box b14 35 (stepV (l2.getD p.i Stp.nil))]) (D := ((dkC j.1 (some ⟨j.2, 0, none⟩) n p.ca.1 p.ca.2 p.a) ++ (dkC o.1 (some ⟨o.2, 0, none⟩) n p.cb.1 p.cb.2 p.b))) (R := []) (hst2 _ (getD_memS l2 p.i (by omega))) h1 (lend_two' dk_lend' dk_lend'))) (fun v _ => ?_)
                have hts := again_step (x := (l2.getD p.i Stp.nil)) hp.2 h1 hfine
                rw [hts.1]
                refine o_not rfl rfl ?_
                refine triL_nil ?_
                refine thenQ_normal ?_
                refine tri_cond_false rfl ?_
                refine tri_skip ?_
                refine blockQ_normal ?_
                refine thenQ_normal ?_
                refine tri_slots [(0, _), (2, _), (7, _), (11, _), (13, _)] (.cons rfl (.cons rfl (.cons rfl (.cons rfl (.cons rfl (.nil _)))))) ?_
                refine tri_region ?_
                refine o_move rfl rfl ?_
                refine o_addN rfl rfl rfl (by omega) ?_
                refine o_assign rfl rfl ?_
                refine triL_nil ?_
                refine thenQ_normal ?_
                exact ⟨⟨p.i + 1, 0, (p.a.ans (l2.getD p.i Stp.nil)).2.2, (p.b.ans (l2.getD p.i Stp.nil)).2.2, v.1, v.2⟩, (.cons rfl (.cons rfl (.cons rfl (.cons rfl (.cons rfl (.nil _)))))), (fun w1 hw => hw.tail), ⟨⟨by simp only; omega, rfl⟩, hts.2⟩, (by simp only; omega)⟩
          · skip
            refine tri_exit ?_
            refine thenQ_exit ?_
            refine thenQ_exit ?_
            refine blockQ_here ?_
            refine thenQ_normal ?_
            refine tri_seq ?_
            refine tri_slots [(7, _), (11, _)] (.cons rfl (.cons rfl (.nil _))) ?_
            refine tri_mixN (_) [(0, 2), (3, 2), (1, 0), (2, 1), (4, 0), (5, 0), (6, 2), (7, 2), (8, 2), (9, 1), (10, 2), (11, 1), (12, 2), (13, 2), (14, 2), (15, 2), (16, 2), (17, 2)] [1] (by kernel_rfl) (by kernel_rfl) (fun _ h => h) ?_
            refine mixN_free rfl ?_
            refine o_move rfl rfl ?_
            refine triL_nil ⟨rfl, ?_⟩
            refine mixN_free rfl ?_
            refine o_move rfl rfl ?_
            refine triL_nil ⟨rfl, ?_⟩
            refine mixN_op rfl rfl ?_
            refine o_callF (first := []) (cap := []) id rfl rfl rfl Try.call21 (fun w1 h1 => imageK j.1 (some ⟨j.2, 0, none⟩) n p.ca.1 p.ca.2 p.a w1 (h1.rd (RdS.box (i := 0) .z)) (h1.rd (RdS.row (i := 1) (.s .z))) hp.2.good) (fun A134 c134 => ?_)
            refine triL_nil ⟨rfl, ?_⟩
            refine mixN_fix rfl ?_
            refine o_toText (l := p.a.image) Try.underlying32 Try.underlying5 Try.underlying9 rfl rfl (RdS.row (i := 0) .z) rfl ?_
            refine triL_nil ⟨rfl, ?_⟩
            refine mixN_keep rfl rfl ?_
            refine o_callF (first := []) (cap := []) id rfl rfl rfl Try.call21 (fun w1 h1 => imageK o.1 (some ⟨o.2, 0, none⟩) n p.cb.1 p.cb.2 p.b w1 (h1.rd (RdS.box (i := 4) (.s (.s (.s (.s .z)))))) (h1.rd (RdS.row (i := 5) (.s (.s (.s (.s (.s .z))))))) hp.2.goodb) (fun A137 c137 => ?_)
            refine triL_nil ⟨rfl, fun _ h => h.tail, ?_⟩
            refine mixN_keep rfl rfl ?_
            refine o_toText (l := p.b.image) Try.underlying32 Try.underlying5 Try.underlying9 rfl rfl (RdS.row (i := 0) .z) rfl ?_
            refine triL_nil ⟨rfl, fun _ h => h.tail, ?_⟩
            refine mixN_free rfl ?_
            refine o_eqlSame rfl rfl rfl (by rw [Dk.image, Dk.image, hp.2.al.1]) ?_
            refine triL_nil ⟨rfl, ?_⟩
            refine mixN_free rfl ?_
            refine o_move rfl rfl ?_
            refine triL_nil ⟨rfl, ?_⟩
            refine mixN_free rfl ?_
            refine o_move rfl rfl ?_
            refine triL_nil ⟨rfl, ?_⟩
            refine mixN_fix rfl ?_
            refine o_callP (first := []) (cap := []) rfl rfl rfl Try.call16 (fun w1 h1 => pendingK j.1 (some ⟨j.2, 0, none⟩) n p.ca.1 p.ca.2 p.a w1 (h1.rd (RdS.box (i := 1) (.s .z)))) ?_
            refine triL_nil ⟨rfl, ?_⟩
            refine mixN_free rfl ?_
            refine o_move rfl rfl ?_
            refine triL_nil ⟨rfl, ?_⟩
            refine mixN_fix rfl ?_
            refine o_callP (first := []) (cap := []) rfl rfl rfl Try.call16 (fun w1 h1 => pendingK o.1 (some ⟨o.2, 0, none⟩) n p.cb.1 p.cb.2 p.b w1 (h1.rd (RdS.box (i := 4) (.s (.s (.s (.s .z))))))) ?_
            refine triL_nil ⟨rfl, ?_⟩
            refine mixN_free rfl ?_
            refine o_eqlIT (by rw [hp.2.al.2]) rfl rfl rfl ?_
            refine triL_nil ⟨rfl, ?_⟩
            refine mixN_free rfl ?_
            refine o_pickT rfl rfl rfl rfl ?_
            refine triL_nil ⟨rfl, ?_⟩
            refine mixN_free rfl ?_
            refine o_move rfl rfl ?_
            refine triL_nil ⟨rfl, ?_⟩
            refine mixN_free rfl ?_
            refine o_callP (first := []) (cap := []) rfl rfl rfl Try.call11 (fun w1 h1 => aliveL w1) ?_
            refine triL_nil ⟨rfl, ?_⟩
            refine mixN_free rfl ?_
            refine o_pickT rfl rfl rfl rfl ?_
            refine triL_nil ⟨rfl, ?_⟩
            refine mixN_free rfl ?_
            refine o_assign rfl rfl ?_
            refine triL_nil ⟨rfl, ?_⟩
            refine mixN_nil ?_
            refine thenQ_normal ?_
            refine tri_ret ?_
            refine end1 rfl rfl ?_
            exact fun w1 hw1 => ⟨rfl, hw1.chg⟩

theorem diskPlays (n : Int) (A : Option Addr) (ln c : Nat) (l : List Stp) (w : World) (hr : Rd w A (stepsV l)) (hn : l.length = ln) (hst : ∀ s ∈ l, s.ok w []) (hsn : ∀ s ∈ l, s.n ≤ 140737488351232) : Calls Try.prog 5 #[.int .i64 n, .slice A ln c] w (Pure w (.bool true)) := by
  by_cases h : n < 1 ∨ 8192 < n
  · exact playsBad n A ln c l w h
  · obtain ⟨k, rfl⟩ := Int.eq_ofNat_of_zero_le (show 0 ≤ n by omega)
    exact plays k A ln c l w (by omega) (by omega) hr hn hst hsn
theorem diskAgain (n : Int) (A : Option Addr) (ln c : Nat) (l : List Stp) (A2 : Option Addr) (ln2 c2 : Nat) (l2 : List Stp) (w : World) (hr : Rd w A (stepsV l)) (hn : l.length = ln) (hst : ∀ s ∈ l, s.ok w []) (hsn : ∀ s ∈ l, s.n ≤ 140737488351232)
    (hr2 : Rd w A2 (stepsV l2)) (hn2 : l2.length = ln2) (hst2 : ∀ s ∈ l2, s.ok w []) : Calls Try.prog 8 #[.int .i64 n, .slice A ln c, .slice A2 ln2 c2] w (Pure w (.bool true)) := by
  by_cases h : n < 1 ∨ 64 < n
  · exact againBad n A ln c l A2 ln2 c2 l2 w h hr hn hst hsn hr2 hn2 hst2
  · obtain ⟨k, rfl⟩ := Int.eq_ofNat_of_zero_le (show 0 ≤ n by omega)
    exact again k A ln c l A2 ln2 c2 l2 w (by omega) (by omega) hr hn hst hsn hr2 hn2 hst2
theorem diskLoads (A : Option Addr) (n c : Nat) (l : List UInt8) (w : World) (hr : Rd w A (bytesV l)) (hn : l.length = n) (hc : n ≤ c) (hm : n ≤ 140737488351232) : Calls Try.prog 4 #[.slice A n c] w (Pure w (.bool true)) := by
  by_cases h : n / 512 < 1 ∨ 8192 < n / 512
  · exact loadsBad2 A n c l w hr hn hc hm h
  · by_cases h2 : n % 512 = 0
    · exact loads A n c l (n / 512) w hr hn hc hm (by omega) (by omega) (by omega)
    · exact loadsBad1 A n c l (n / 512) w hr hn hc hm rfl h2 (by omega) (by omega)

end Go.Proofs.Ytpnccaddbjbfhaa
