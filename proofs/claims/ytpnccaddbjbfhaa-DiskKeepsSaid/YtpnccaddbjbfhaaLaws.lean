/- the laws of the disk, walked -/
import Derived.Test.YtpnccaddbjbfhaaWalks6
namespace Go.Proofs.Ytpnccaddbjbfhaa
open Go.WK Go.RowKit 

theorem flat47 : flatB Try.prog 47 = some [.int .i64, .int .i64, .int .i64] := by kernel_rfl
theorem agg35 : aggB Try.prog 35 = some true := by kernel_rfl
theorem zero35 : (Try.prog.info? 35).map (·.zero) = some (some (.agg #[.int .i64 0, .int .i64 0, .slice none 0 0, .int .i64 0, .slice none 0 0])) := by kernel_rfl
theorem zero63 : (Try.prog.info? 63).map (·.zero) = some (some (.agg #[.slice none 0 0, .slice none 0 0, .int .i64 0, .bool false, .int .i64 0, .int .i64 0, .int .i64 0])) := by kernel_rfl
theorem built63  : Try.prog.built 63 [] = some ([.slice none 0 0, .slice none 0 0, .int .i64 0, .bool false, .int .i64 0, .int .i64 0, .int .i64 0] : List Value).toArray := by rfl
theorem zs24 : (Try.prog.info? 24).map (fun i => (i.zero, i.size)) = some (some (.pointer none), 1) := by kernel_rfl
theorem agg24 : aggB Try.prog 24 = some false := by kernel_rfl
theorem sz24 : szB Try.prog 24 = some 1 := by kernel_rfl

theorem playsBad (n : Int) (A : Option Addr) (ln c : Nat) (l : List Stp) (w : World) (hb : n < 1 ∨ 8192 < n) : Calls Try.prog 5 #[.int .i64 n, .slice A ln c] w (Pure w (.bool true)) := by
  refine calls_tri (args := [.int .i64 n, .slice A ln c]) (lent := []) (H := []) Try.func5 rfl Try.ntmps5 rfl (Sat.start _ _ _ _) ?_
  refine (show Tri _ [(0, _), (1, _)] _ _ _ from ?_)
  refine tri_seq ?_
  refine tri_region ?_
  refine o_assign rfl rfl ?_
  refine triL_nil ?_
  refine thenQ_normal ?_
  refine tri_seq ?_
  refine tri_region ?_
  refine o_move rfl rfl ?_
  refine o_callP (first := []) (cap := []) rfl rfl rfl Try.call9 (fun w1 h1 => newBad n w1 hb) ?_
  refine o_move rfl rfl ?_
  refine o_extract rfl rfl rfl ?_
  refine o_extract rfl rfl rfl ?_
  refine o_assign rfl rfl ?_
  refine o_assign rfl rfl ?_
  refine triL_nil ?_
  refine thenQ_normal ?_
  refine tri_seq ?_
  refine tri_seq ?_
  refine tri_slots [(6, _), (5, _), (0, _), (1, _)] (.cons rfl (.cons rfl (.cons rfl (.cons rfl (.nil _))))) ?_
  refine tri_region ?_
  refine o_move rfl rfl ?_
  refine o_lss rfl rfl rfl ?_
  refine o_move rfl rfl ?_
  refine' triL_or [_, _] [(6, _), (5, _), (0, _), (1, _)] (dj := 19) (dr := 21) rfl rfl (fun g1 => ?_) ⟨_, rfl, rfl, rfl, (.cons rfl (.cons rfl (.cons rfl (.cons rfl (.nil _)))))⟩ rfl ?_
  rotate_left
  · skip
    skip
    refine o_move rfl rfl ?_
    refine o_gtr rfl rfl rfl ?_
    exact triL_nil (Piece.mk rfl rfl (.cons rfl (.cons rfl (.cons rfl (.cons rfl (.nil _))))) (fun _ h => h))
  refine triL_nil ?_
  refine thenQ_normal ?_
  refine tri_cond rfl (fun h0 => ?_) (fun h0 => ?_)
  · skip
    refine tri_seq ?_
    refine tri_region ?_
    refine o_move rfl rfl ?_
    refine o_eqlNil Try.underlying24 rfl rfl rfl ?_
    refine o_move rfl rfl ?_
    refine' triL_and [_, _] [] (dj := 25) (dr := 27) rfl rfl (fun g2 => ?_) ⟨_, rfl, rfl, rfl, (.nil _)⟩ rfl ?_
    rotate_left
    · skip
      skip
      refine o_move rfl rfl ?_
      refine o_eqlI rfl rfl rfl ?_
      exact triL_nil (Piece.mk rfl rfl (.nil _) (fun _ h => h))
    refine o_move rfl rfl ?_
    refine' triL_and [_] [] (dj := 29) (dr := 30) rfl rfl (fun g3 => ?_) ⟨_, rfl, rfl, rfl, (.nil _)⟩ rfl ?_
    rotate_left
    · skip
      skip
      refine o_callP (first := []) (cap := []) rfl rfl rfl Try.call11 (fun w1 h1 => aliveL w1) ?_
      exact triL_nil (Piece.mk rfl rfl (.nil _) (fun _ h => h))
    refine o_assign rfl rfl ?_
    refine triL_nil ?_
    refine thenQ_normal ?_
    refine tri_ret ?_
    refine thenQ_ret ?_
    refine end1 rfl rfl ?_
    exact fun w1 hw1 => ⟨rfl, hw1.chg⟩
  · skip
    exact absurd h0 (by simp <;> omega)

theorem plays (n : Nat) (A : Option Addr) (ln c : Nat) (l : List Stp) (w : World) (h1 : 1 ≤ n) (h2 : n ≤ 8192) (hr : Rd w A (stepsV l)) (hn : l.length = ln) (hst : ∀ s ∈ l, s.ok w []) (hsn : ∀ s ∈ l, s.n ≤ 140737488351232) : Calls Try.prog 5 #[.int .i64 (n : Int), .slice A ln c] w (Pure w (.bool true)) := by
  refine calls_tri (args := [.int .i64 (n : Int), .slice A ln c]) (lent := []) (H := []) Try.func5 rfl Try.ntmps5 rfl (Sat.start _ _ _ _) ?_
  refine (show Tri _ [(0, _), (1, _)] _ _ _ from ?_)
  have hR : ∀ cx H, cx.w0 = w → cx.lent = [] → RdS cx H A (stepsV l) := fun cx H h1 h2 => RdS.arg (by rw [h1]; exact hr) h2
  refine tri_seq ?_
  refine tri_region ?_
  refine o_assign rfl rfl ?_
  refine triL_nil ?_
  refine thenQ_normal ?_
  refine tri_seq ?_
  refine tri_region ?_
  refine o_move rfl rfl ?_
  refine o_callM [] [] [] [] rfl rfl rfl rfl Try.call9 (fun c hc => by cases hc) (fun c hc => by cases hc) (fun w1 _ _ => newK n w1 h1 h2) (fun j _ => ?_)
  refine o_move rfl rfl ?_
  refine o_extract rfl rfl rfl ?_
  refine o_extract rfl rfl rfl ?_
  refine o_assign rfl rfl ?_
  refine o_assign rfl rfl ?_
  refine triL_nil ?_
  refine thenQ_normal ?_
  refine tri_seq ?_
  refine tri_seq ?_
  refine tri_slots [(6, _), (5, _), (0, _), (1, _)] (.cons rfl (.cons rfl (.cons rfl (.cons rfl (.nil _))))) ?_
  refine tri_region ?_
  refine o_move rfl rfl ?_
  refine o_lss rfl rfl rfl ?_
  refine o_move rfl rfl ?_
  refine' triL_or [_, _] [(6, _), (5, _), (0, _), (1, _)] (dj := 19) (dr := 21) rfl rfl (fun g1 => ?_) ⟨_, rfl, rfl, rfl, (.cons rfl (.cons rfl (.cons rfl (.cons rfl (.nil _)))))⟩ rfl ?_
  rotate_left
  · skip
    skip
    refine o_move rfl rfl ?_
    refine o_gtr rfl rfl rfl ?_
    exact triL_nil (Piece.mk rfl rfl (.cons rfl (.cons rfl (.cons rfl (.cons rfl (.nil _))))) (fun _ h => h))
  refine triL_nil ?_
  refine thenQ_normal ?_
  refine tri_cond rfl (fun h0 => ?_) (fun h0 => ?_)
  · skip
    exact absurd h0 (by simp; omega)
  · skip
    refine tri_skip ?_
    refine thenQ_normal ?_
    refine tri_seq ?_
    refine tri_seq ?_
    refine tri_region ?_
    refine o_move rfl rfl ?_
    refine o_neqI rfl rfl rfl ?_
    refine o_move rfl rfl ?_
    refine' triL_or [_, _] [(5, _), (0, _), (1, _)] (dj := 34) (dr := 36) rfl rfl (fun g2 => ?_) ⟨_, rfl, rfl, rfl, (.cons rfl (.cons rfl (.cons rfl (.nil _))))⟩ rfl ?_
    rotate_left
    · skip
      skip
      refine o_move rfl rfl ?_
      refine o_eqlNil Try.underlying24 rfl rfl rfl ?_
      exact triL_nil (Piece.mk rfl rfl (.cons rfl (.cons rfl (.cons rfl (.nil _)))) (fun _ h => h))
    refine o_move rfl rfl ?_
    refine' triL_or [_, _, _, _] [(5, _), (0, _), (1, _)] (dj := 38) (dr := 42) rfl rfl (fun g3 => ?_) ⟨_, rfl, rfl, rfl, (.cons rfl (.cons rfl (.cons rfl (.nil _))))⟩ rfl ?_
    rotate_left
    · skip
      skip
      refine o_move rfl rfl ?_
      refine o_callP (first := []) (cap := []) rfl rfl rfl Try.call20 (fun w1 h1 => sectorsK j.1 (some ⟨j.2, 0, none⟩) n none 0 (Dk.new n) w1 (h1.rd (RdS.box (i := 0) .z))) ?_
      refine o_move rfl rfl ?_
      refine o_neqI rfl rfl rfl ?_
      exact triL_nil (Piece.mk rfl rfl (.cons rfl (.cons rfl (.cons rfl (.nil _)))) (fun _ h => h))
    refine triL_nil ?_
    refine thenQ_normal ?_
    refine tri_cond rfl (fun h0 => ?_) (fun h0 => ?_)
    · skip
      exact absurd h0 (by simp [Dk.new])
    · skip
      refine tri_skip ?_
      refine thenQ_normal ?_
      refine tri_seq ?_
      refine tri_seq ?_
      refine tri_region ?_
      refine o_move rfl rfl ?_
      refine o_gtr rfl rfl rfl ?_
      refine o_move rfl rfl ?_
      refine' triL_or [_, _] [(5, _), (0, _), (1, _)] (dj := 46) (dr := 48) rfl rfl (fun g4 => ?_) ⟨_, rfl, rfl, rfl, (.cons rfl (.cons rfl (.cons rfl (.nil _))))⟩ rfl ?_
      rotate_left
      · skip
        skip
        refine o_move rfl rfl ?_
        refine o_callP (first := []) (cap := []) rfl rfl rfl Try.call10 (fun w1 h1 => longL A ln c l w1 (h1.rd (hR _ _ rfl rfl)) hn) ?_
        exact triL_nil (Piece.mk rfl rfl (.cons rfl (.cons rfl (.cons rfl (.nil _)))) (fun _ h => h))
      refine triL_nil ?_
      refine thenQ_normal ?_
      refine tri_cond rfl (fun h3 => ?_) (fun h3 => ?_)
      · skip
        refine tri_seq ?_
        refine tri_slots [] (.nil _) ?_
        refine tri_region ?_
        refine o_callP (first := []) (cap := []) rfl rfl rfl Try.call11 (fun w1 h1 => aliveL w1) ?_
        refine o_assign rfl rfl ?_
        refine triL_nil ?_
        refine thenQ_normal ?_
        refine tri_ret ?_
        refine thenQ_ret ?_
        refine end1 rfl rfl ?_
        exact fun w1 hw1 => ⟨rfl, hw1.chg⟩
      · skip
        have h3 : n ≤ 64 ∧ longB l = false := by
          simp only [Bool.or_eq_false_iff, decide_eq_false_iff_not] at h3
          exact ⟨by omega, h3.2⟩
        obtain ⟨hl1, hl2⟩ := longB_false h3.2
        refine tri_skip ?_
        refine thenQ_normal ?_
        refine tri_seq ?_
        refine tri_region ?_
        refine o_move rfl rfl ?_
        refine o_callM (dkC j.1 (some ⟨j.2, 0, none⟩) n none 0 (Dk.new n)) [] [] [] rfl rfl rfl rfl Try.call24 (fun c hc => by cases hc) (fun c hc => by cases hc) (fun w1 _ _ => newR n w1 h1 h2) (fun k hk => ?_)
        refine o_assign rfl rfl ?_
        refine triL_nil ?_
        refine thenQ_normal ?_
        refine tri_seq ?_
        refine tri_seq ?_
        refine tri_slots [(7, _), (5, _), (1, _)] (.cons rfl (.cons rfl (.cons rfl (.nil _)))) ?_
        refine tri_region ?_
        refine o_assign rfl rfl ?_
        refine triL_nil ?_
        refine thenQ_normal ?_
        refine tri_block ?_
        refine tri_loop (ι := Nat × Dk × (Option Addr × Nat) × Rk) (F := fun q => [(1, .slice A ln c), (5, .pointer (some ⟨j.1, 0, none⟩)), (7, .pointer (some ⟨k.1, 0, none⟩)), (8, .int .i64 (q.1 : Int))]) (HH := fun q => ((dkC j.1 (some ⟨j.2, 0, none⟩) n q.2.2.1.1 q.2.2.1.2 q.2.1) ++ rkC k.1 q.2.2.2 q.2.1)) (Pu := fun q => q.1 ≤ ln ∧ q.2.1.good ∧ q.2.2.2.ok q.2.1 ∧ q.2.1.kept.length = n ∧ q.2.1.cache.length ≤ q.1) (μ := fun q => ln - q.1) ((0, Dk.new n, (none, 0), k.2)) (.cons rfl (.cons rfl (.cons rfl (.cons rfl (.nil _))))) (fun _ h => h) (⟨Nat.zero_le _, Dk.new_good n h2, hk, List.length_replicate, Nat.zero_le _⟩) (fun q hi => ?_)
        refine tri_seq ?_
        refine tri_seq ?_
        refine tri_region ?_
        refine o_move rfl rfl ?_
        refine o_move rfl rfl ?_
        refine o_lenS Try.underlying22 rfl rfl ?_
        refine o_lss rfl rfl rfl ?_
        refine triL_nil ?_
        refine thenQ_normal ?_
        refine tri_if rfl (fun h4 => ?_) (fun h4 => ?_)
        · skip
          refine tri_skip ?_
          refine thenQ_normal ?_
          refine tri_seq ?_
          refine tri_block ?_
          refine tri_seq ?_
          refine tri_slots [(1, _), (5, _), (7, _), (8, _)] (.cons rfl (.cons rfl (.cons rfl (.cons rfl (.nil _))))) ?_
          refine tri_mixN (_) [(0, 2), (1, 2), (2, 2), (3, 2), (4, 1), (5, 1), (6, 0), (7, 2), (8, 2), (9, 2), (10, 1), (11, 2), (12, 2), (13, 2), (14, 1), (15, 2), (16, 2), (17, 2), (18, 2), (19, 2), (20, 1), (21, 2), (22, 2), (23, 2), (24, 1), (25, 2), (26, 2), (27, 2), (28, 2), (29, 1), (30, 2), (31, 2), (32, 2), (33, 1), (34, 2), (35, 2)] [6] (by kernel_rfl) (by kernel_rfl) (fun _ h => h) ?_
          refine mixN_free rfl ?_
          refine o_move rfl rfl ?_
          refine triL_nil ⟨rfl, ?_⟩
          refine mixN_free rfl ?_
          refine o_move rfl rfl ?_
          refine triL_nil ⟨rfl, ?_⟩
          refine mixN_free rfl ?_
          refine o_move rfl rfl ?_
          refine triL_nil ⟨rfl, ?_⟩
          refine mixN_free rfl ?_
          refine o_move rfl rfl ?_
          refine triL_nil ⟨rfl, ?_⟩
          refine mixN_fix rfl ?_
          refine o_idxS Try.underlying22 sz35 rfl rfl rfl (hR _ _ rfl rfl) (by omega) (by omega) (by rw [steps_length, hn]) (by decide) ?_
          refine triL_nil ⟨rfl, ?_⟩
          refine mixN_fix rfl ?_
          refine o_loadRA agg35 sz35 rfl rfl (hR _ _ rfl rfl) (steps_at l q.1 (by omega)) rfl (by decide) ?_
          refine triL_nil ⟨rfl, ?_⟩
          refine mixN_op rfl rfl ?_
          refine o_callM [] ((dkC j.1 (some ⟨j.2, 0, none⟩) n q.2.2.1.1 q.2.2.1.2 q.2.1) ++ rkC k.1 q.2.2.2 q.2.1) [] (dkF j.1 (some ⟨j.2, 0, none⟩) q.2.2.1.1 ++ rkF k.1 q.2.2.2) rfl rfl rfl rfl Try.call25 (lend_two dk_lend rk_lend) (lend_two' dk_lend' rk_lend') (fun w1 h1 h2 => doesL j.1 (some ⟨j.2, 0, none⟩) n q.2.2.1.1 q.2.2.1.2 k.1 q.2.2.2 q.2.1 (l.getD q.1 Stp.nil) w1 h2.cx hi.2.2.1 hi.2.1 (by omega) (ne_nil hi.2.2.2.1 (by omega)) (Stp.call (L := []) (D := ((dkC j.1 (some ⟨j.2, 0, none⟩) n q.2.2.1.1 q.2.2.1.2 q.2.1) ++ rkC k.1 q.2.2.2 q.2.1)) (R := []) (hst _ (getD_memS l q.1 (by omega))) h1 (lend_two' dk_lend' rk_lend')) (hsn _ (getD_memS l q.1 (by omega)))) (fun v hv => ?_)
          refine triL_nil ⟨rfl, ?_⟩
          refine mixN_free rfl ?_
          refine o_not rfl rfl ?_
          refine triL_nil ⟨rfl, ?_⟩
          refine mixN_free rfl ?_
          refine o_move rfl rfl ?_
          refine triL_nil ⟨rfl, ?_⟩
          refine mixN_free rfl ?_
          refine o_move rfl rfl ?_
          refine triL_nil ⟨rfl, ?_⟩
          refine mixN_fix rfl ?_
          refine o_callP (first := []) (cap := []) rfl rfl rfl Try.call16 (fun w1 h1 => pendingK j.1 (some ⟨j.2, 0, none⟩) n v.1.1 v.1.2 (q.2.1.step (l.getD q.1 Stp.nil)) w1 (h1.rd (RdS.box (i := 0) .z))) ?_
          refine triL_nil ⟨rfl, ?_⟩
          refine mixN_free rfl ?_
          refine o_move rfl rfl ?_
          refine triL_nil ⟨rfl, ?_⟩
          refine mixN_free rfl ?_
          refine o_nilCheck rfl rfl ?_
          refine triL_nil ⟨rfl, ?_⟩
          refine mixN_free rfl ?_
          refine o_field fo55_1 rfl rfl ?_
          refine triL_nil ⟨rfl, ?_⟩
          refine mixN_fix rfl ?_
          refine o_load agg53 (by first | exact Nth.z | exact .s .z | exact .s (.s .z) | exact .s (.s (.s .z)) | exact .s (.s (.s (.s .z))) | exact .s (.s (.s (.s (.s .z)))) | exact .s (.s (.s (.s (.s (.s .z))))) | exact .s (.s (.s (.s (.s (.s (.s .z))))))) rfl rfl rfl ?_
          refine triL_nil ⟨rfl, ?_⟩
          refine mixN_free rfl ?_
          refine o_lenS Try.underlying53 rfl rfl ?_
          refine triL_nil ⟨rfl, ?_⟩
          refine mixN_free rfl ?_
          refine o_neqIF (by rw [hv.2.1]) rfl rfl rfl ?_
          refine triL_nil ⟨rfl, ?_⟩
          refine mixN_free rfl ?_
          refine o_pickF rfl rfl rfl rfl ?_
          refine triL_nil ⟨rfl, ?_⟩
          refine mixN_free rfl ?_
          refine o_move rfl rfl ?_
          refine triL_nil ⟨rfl, ?_⟩
          refine mixN_free rfl ?_
          refine o_move rfl rfl ?_
          refine triL_nil ⟨rfl, ?_⟩
          refine mixN_fix rfl ?_
          refine o_callP (first := []) (cap := []) rfl rfl rfl Try.call22 (fun w1 h1 => darkK j.1 (some ⟨j.2, 0, none⟩) n v.1.1 v.1.2 (q.2.1.step (l.getD q.1 Stp.nil)) w1 (h1.rd (RdS.box (i := 0) .z))) ?_
          refine triL_nil ⟨rfl, ?_⟩
          refine mixN_free rfl ?_
          refine o_move rfl rfl ?_
          refine triL_nil ⟨rfl, ?_⟩
          refine mixN_free rfl ?_
          refine o_nilCheck rfl rfl ?_
          refine triL_nil ⟨rfl, ?_⟩
          refine mixN_free rfl ?_
          refine o_field fo55_3 rfl rfl ?_
          refine triL_nil ⟨rfl, ?_⟩
          refine mixN_fix rfl ?_
          refine o_load agg4 (by first | exact Nth.z | exact .s .z | exact .s (.s .z) | exact .s (.s (.s .z)) | exact .s (.s (.s (.s .z))) | exact .s (.s (.s (.s (.s .z)))) | exact .s (.s (.s (.s (.s (.s .z))))) | exact .s (.s (.s (.s (.s (.s (.s .z))))))) rfl rfl rfl ?_
          refine triL_nil ⟨rfl, ?_⟩
          refine mixN_free rfl ?_
          refine o_neqBF rfl rfl Try.underlying4 rfl rfl ?_
          refine triL_nil ⟨rfl, ?_⟩
          refine mixN_free rfl ?_
          refine o_pickF rfl rfl rfl rfl ?_
          refine triL_nil ⟨rfl, ?_⟩
          refine mixN_free rfl ?_
          refine o_move rfl rfl ?_
          refine triL_nil ⟨rfl, ?_⟩
          refine mixN_free rfl ?_
          refine o_move rfl rfl ?_
          refine triL_nil ⟨rfl, ?_⟩
          refine mixN_fix rfl ?_
          refine o_callP (first := []) (cap := []) rfl rfl rfl Try.call23 (fun w1 h1 => countsK j.1 (some ⟨j.2, 0, none⟩) n v.1.1 v.1.2 (q.2.1.step (l.getD q.1 Stp.nil)) w1 (h1.rd (RdS.box (i := 0) .z))) ?_
          refine triL_nil ⟨rfl, ?_⟩
          refine mixN_free rfl ?_
          refine o_move rfl rfl ?_
          refine triL_nil ⟨rfl, ?_⟩
          refine mixN_free rfl ?_
          refine o_nilCheck rfl rfl ?_
          refine triL_nil ⟨rfl, ?_⟩
          refine mixN_free rfl ?_
          refine o_field fo55_4 rfl rfl ?_
          refine triL_nil ⟨rfl, ?_⟩
          refine mixN_fix rfl ?_
          refine o_loadA agg47 sz47 (by first | exact Nth.z | exact .s .z | exact .s (.s .z) | exact .s (.s (.s .z)) | exact .s (.s (.s (.s .z))) | exact .s (.s (.s (.s (.s .z)))) | exact .s (.s (.s (.s (.s (.s .z))))) | exact .s (.s (.s (.s (.s (.s (.s .z))))))) rfl rfl rfl rfl ?_
          refine triL_nil ⟨rfl, ?_⟩
          refine mixN_free rfl ?_
          refine o_neqAF flat47 rfl (same3 _ _ _) rfl rfl rfl ?_
          refine triL_nil ⟨rfl, ?_⟩
          refine mixN_free rfl ?_
          refine o_pickF rfl rfl rfl rfl ?_
          refine triL_nil ⟨rfl, ?_⟩
          refine mixN_nil ?_
          refine thenQ_normal ?_
          refine tri_cond_false rfl ?_
          refine tri_skip ?_
          refine blockQ_normal ?_
          refine thenQ_normal ?_
          refine tri_slots [(1, _), (5, _), (7, _), (8, _)] (.cons rfl (.cons rfl (.cons rfl (.cons rfl (.nil _))))) ?_
          refine tri_region ?_
          refine o_move rfl rfl ?_
          refine o_addN rfl rfl rfl (by omega) ?_
          refine o_assign rfl rfl ?_
          refine triL_nil ?_
          refine thenQ_normal ?_
          exact ⟨(q.1 + 1, (q.2.1.step (l.getD q.1 Stp.nil)), v.1, v.2), (.cons rfl (.cons rfl (.cons rfl (.cons rfl (.nil _))))), fun _ h => h, ⟨by simp only; omega, Dk.step_good hi.2.1 _, hv, by rw [Dk.step_kept]; exact hi.2.2.2.1, by have := Dk.step_cache q.2.1 (l.getD q.1 Stp.nil); simp only; omega⟩, (by simp only; omega)⟩
        · skip
          have hil : q.2.1.image.length = n * 512 := by rw [Dk.image_len hi.2.1, hi.2.2.2.1]
          refine tri_exit ?_
          refine thenQ_exit ?_
          refine thenQ_exit ?_
          refine blockQ_here ?_
          refine thenQ_normal ?_
          refine tri_seq ?_
          refine tri_slots [(5, _), (7, _)] (.cons rfl (.cons rfl (.nil _))) ?_
          refine tri_region ?_
          refine o_move rfl rfl ?_
          refine o_callF (first := []) (cap := []) id rfl rfl rfl Try.call21 (fun w1 h1 => imageK j.1 (some ⟨j.2, 0, none⟩) n q.2.2.1.1 q.2.2.1.2 q.2.1 w1 (h1.rd (RdS.box (i := 0) .z)) (h1.rd (RdS.row (i := 1) (.s .z))) hi.2.1) (fun A96 c96 => ?_)
          refine o_assign rfl rfl ?_
          refine triL_nil ?_
          refine thenQ_normal ?_
          refine tri_seq ?_
          refine tri_mixN (_) [(0, 2), (1, 1), (2, 2), (3, 0), (4, 0), (5, 2), (6, 2)] [] (by kernel_rfl) (by kernel_rfl) (fun _ h => h) ?_
          refine mixN_free rfl ?_
          refine o_move rfl rfl ?_
          refine triL_nil ⟨rfl, ?_⟩
          refine mixN_fix rfl ?_
          refine o_toText (l := q.2.1.image) Try.underlying32 Try.underlying5 Try.underlying9 rfl rfl (RdS.row (i := 0) .z) rfl ?_
          refine triL_nil ⟨rfl, ?_⟩
          refine mixN_free rfl ?_
          refine o_move rfl rfl ?_
          refine triL_nil ⟨rfl, ?_⟩
          refine mixN_keep rfl rfl ?_
          refine o_callM ([row (.slice A96 q.2.1.image.length c96) 5 1 q.2.1.image.length (bytesV q.2.1.image)] ++ (dkC j.1 (some ⟨j.2, 0, none⟩) n q.2.2.1.1 q.2.2.1.2 q.2.1)) (rkC k.1 q.2.2.2 q.2.1) [] (rkF k.1 q.2.2.2) rfl rfl rfl rfl Try.call26 rk_lend rk_lend' (fun w1 h1 h2 => imageR k.1 q.2.2.2 q.2.1 w1 h2.cx hi.2.2.1 hi.2.1 (by omega)) (fun u _ => ?_)
          refine triL_nil ⟨rfl, fun _ h => h.sublist (List.Sublist.cons_cons _ (List.Sublist.cons_cons _ (List.Sublist.cons_cons _ (List.Sublist.cons_cons _ (List.Sublist.cons _ (List.Sublist.refl _)))))), ?_⟩
          refine mixN_keep rfl rfl ?_
          refine o_toText (l := q.2.1.image) Try.underlying32 Try.underlying5 Try.underlying9 rfl rfl (RdS.row (i := 4) (.s (.s (.s (.s .z))))) rfl ?_
          refine triL_nil ⟨rfl, fun _ h => h.sublist (List.Sublist.cons_cons _ (List.Sublist.cons_cons _ (List.Sublist.cons_cons _ (List.Sublist.cons_cons _ (List.Sublist.cons _ (List.Sublist.refl _)))))), ?_⟩
          refine mixN_free rfl ?_
          refine o_eqlSame rfl rfl rfl rfl ?_
          refine triL_nil ⟨rfl, ?_⟩
          refine mixN_free rfl ?_
          refine o_assign rfl rfl ?_
          refine triL_nil ⟨rfl, ?_⟩
          refine mixN_nil ?_
          refine thenQ_normal ?_
          refine tri_seq ?_
          refine tri_seq ?_
          refine tri_slots [(10, _), (9, _), (5, _), (7, _)] (.cons rfl (.cons rfl (.cons rfl (.cons rfl (.nil _))))) ?_
          refine tri_region ?_
          refine o_assign rfl rfl ?_
          refine triL_nil ?_
          refine thenQ_normal ?_
          refine tri_block ?_
          refine tri_loop (ι := Nat × List UInt8) (F := fun p => [(5, .pointer (some ⟨j.1, 0, none⟩)), (7, .pointer (some ⟨k.1, 0, none⟩)), (9, .slice A96 q.2.1.image.length c96), (10, .bool true), (11, .int .i64 (p.1 : Int))]) (HH := fun p => (row (.slice A96 q.2.1.image.length c96) 5 1 q.2.1.image.length (bytesV p.2) :: ((dkC j.1 (some ⟨j.2, 0, none⟩) n q.2.2.1.1 q.2.2.1.2 q.2.1) ++ rkC k.1 q.2.2.2 q.2.1))) (Pu := fun p => p.1 ≤ q.2.1.image.length ∧ p.2.length = q.2.1.image.length) (μ := fun p => q.2.1.image.length - p.1) ((0, q.2.1.image)) (.cons rfl (.cons rfl (.cons rfl (.cons rfl (.cons rfl (.nil _)))))) (fun _ h => h.sublist (List.Sublist.cons_cons _ (List.Sublist.cons_cons _ (List.Sublist.cons_cons _ (List.Sublist.cons_cons _ (List.Sublist.cons _ (List.Sublist.refl _))))))) (⟨Nat.zero_le _, rfl⟩) (fun p hp => ?_)
          refine tri_seq ?_
          refine tri_seq ?_
          refine tri_region ?_
          refine o_move rfl rfl ?_
          refine o_move rfl rfl ?_
          refine o_lenS Try.underlying32 rfl rfl ?_
          refine o_lss rfl rfl rfl ?_
          refine triL_nil ?_
          refine thenQ_normal ?_
          refine tri_if rfl (fun h5 => ?_) (fun h5 => ?_)
          · skip
            refine tri_skip ?_
            refine thenQ_normal ?_
            refine tri_seq ?_
            refine tri_block ?_
            refine tri_slots [(5, _), (7, _), (9, _), (10, _), (11, _)] (.cons rfl (.cons rfl (.cons rfl (.cons rfl (.cons rfl (.nil _)))))) ?_
            refine tri_region ?_
            refine o_move rfl rfl ?_
            refine o_move rfl rfl ?_
            refine o_move rfl rfl ?_
            refine o_move rfl rfl ?_
            refine o_idxS Try.underlying32 sz5 rfl rfl rfl (RdS.row (i := 0) .z) (by omega) (by omega) (by rw [bytesV_length]; omega) (by decide) ?_
            refine o_loadR agg5 rfl rfl (RdS.row (i := 0) .z) (rd_byte p.2 p.1 (by simp) (by omega)) ?_
            refine o_add rfl rfl rfl ?_
            rw [byte_inc]
            refine o_idxS Try.underlying32 sz5 rfl rfl rfl (RdS.row (i := 0) .z) (by omega) (by omega) (by rw [bytesV_length]; omega) (by decide) ?_
            refine o_storeR sz5 .z rfl rfl rfl rfl (by rw [bytesV_length]; omega) rfl ?_
            refine triL_nil ?_
            refine blockQ_normal ?_
            refine thenQ_normal ?_
            refine tri_slots [(5, _), (7, _), (9, _), (10, _), (11, _)] (.cons rfl (.cons rfl (.cons rfl (.cons rfl (.cons rfl (.nil _)))))) ?_
            refine tri_region ?_
            refine o_move rfl rfl ?_
            refine o_addN rfl rfl rfl (by omega) ?_
            refine o_assign rfl rfl ?_
            refine triL_nil ?_
            refine thenQ_normal ?_
            exact ⟨(p.1 + 1, p.2.set p.1 (p.2.getD p.1 0 + 1)), (.cons rfl (.cons rfl (.cons rfl (.cons rfl (.cons rfl (.nil _)))))), (fun w1 hw1 => by
  simp only [← bytesV_set]
  rw [show (p.1 : Int).toNat * 1 = p.1 by omega] at hw1
  exact hw1), ⟨by simp only; omega, by simp only [List.length_set]; exact hp.2⟩, (by simp only; omega)⟩
          · skip
            refine tri_exit ?_
            refine thenQ_exit ?_
            refine thenQ_exit ?_
            refine blockQ_here ?_
            refine thenQ_normal ?_
            refine tri_seq ?_
            refine tri_slots [(5, _), (7, _), (10, _)] (.cons rfl (.cons rfl (.cons rfl (.nil _)))) ?_
            refine tri_mixN (_) [(0, 2), (1, 2), (2, 2), (5, 2), (3, 0), (4, 1), (6, 0), (7, 0), (8, 2), (9, 2), (10, 2), (11, 2), (12, 2), (13, 2)] [3] (by kernel_rfl) (by kernel_rfl) (fun _ h => h) ?_
            refine mixN_free rfl ?_
            refine o_move rfl rfl ?_
            refine triL_nil ⟨rfl, ?_⟩
            refine mixN_free rfl ?_
            refine o_move rfl rfl ?_
            refine triL_nil ⟨rfl, ?_⟩
            refine mixN_free rfl ?_
            refine o_move rfl rfl ?_
            refine triL_nil ⟨rfl, ?_⟩
            refine mixN_free rfl ?_
            refine o_move rfl rfl ?_
            refine triL_nil ⟨rfl, ?_⟩
            refine mixN_op rfl rfl ?_
            refine o_callF (first := []) (cap := []) id rfl rfl rfl Try.call21 (fun w1 h1 => imageK j.1 (some ⟨j.2, 0, none⟩) n q.2.2.1.1 q.2.2.1.2 q.2.1 w1 (h1.rd (RdS.box (i := 1) (.s .z))) (h1.rd (RdS.row (i := 2) (.s (.s .z)))) hi.2.1) (fun A120 c120 => ?_)
            refine triL_nil ⟨rfl, ?_⟩
            refine mixN_fix rfl ?_
            refine o_toText (l := q.2.1.image) Try.underlying32 Try.underlying5 Try.underlying9 rfl rfl (RdS.row (i := 0) .z) rfl ?_
            refine triL_nil ⟨rfl, ?_⟩
            refine mixN_keep rfl rfl ?_
            refine o_callM ([row (.slice A120 q.2.1.image.length c120) 5 1 q.2.1.image.length (bytesV q.2.1.image), row (.slice A96 q.2.1.image.length c96) 5 1 q.2.1.image.length (bytesV p.2)] ++ (dkC j.1 (some ⟨j.2, 0, none⟩) n q.2.2.1.1 q.2.2.1.2 q.2.1)) (rkC k.1 q.2.2.2 q.2.1) [] (rkF k.1 q.2.2.2) rfl rfl rfl rfl Try.call26 rk_lend rk_lend' (fun w1 h1 h2 => imageR k.1 q.2.2.2 q.2.1 w1 h2.cx hi.2.2.1 hi.2.1 (by omega)) (fun u2 _ => ?_)
            refine triL_nil ⟨rfl, fun _ h => h.sublist (List.Sublist.cons_cons _ (List.Sublist.cons_cons _ (List.Sublist.cons_cons _ (List.Sublist.cons_cons _ (List.Sublist.cons_cons _ (List.Sublist.cons _ (List.Sublist.refl _))))))), ?_⟩
            refine mixN_keep rfl rfl ?_
            refine o_toText (l := q.2.1.image) Try.underlying32 Try.underlying5 Try.underlying9 rfl rfl (RdS.row (i := 5) (.s (.s (.s (.s (.s .z)))))) rfl ?_
            refine triL_nil ⟨rfl, fun _ h => h.sublist (List.Sublist.cons_cons _ (List.Sublist.cons_cons _ (List.Sublist.cons_cons _ (List.Sublist.cons_cons _ (List.Sublist.cons_cons _ (List.Sublist.cons _ (List.Sublist.refl _))))))), ?_⟩
            refine mixN_free rfl ?_
            refine o_eqlSame rfl rfl rfl rfl ?_
            refine triL_nil ⟨rfl, ?_⟩
            refine mixN_free rfl ?_
            refine o_pickT rfl rfl rfl rfl ?_
            refine triL_nil ⟨rfl, ?_⟩
            refine mixN_free rfl ?_
            refine o_move rfl rfl ?_
            refine triL_nil ⟨rfl, ?_⟩
            refine mixN_free rfl ?_
            refine o_callP (first := []) (cap := []) rfl rfl rfl Try.call11 (fun w1 h1 => aliveL w1) ?_
            refine triL_nil ⟨rfl, ?_⟩
            refine mixN_free rfl ?_
            refine o_pickT rfl rfl rfl rfl ?_
            refine triL_nil ⟨rfl, ?_⟩
            refine mixN_free rfl ?_
            refine o_assign rfl rfl ?_
            refine triL_nil ⟨rfl, ?_⟩
            refine mixN_nil ?_
            refine thenQ_normal ?_
            refine tri_ret ?_
            refine end1 rfl rfl ?_
            exact fun w1 hw1 => ⟨rfl, hw1.chg⟩

theorem loadsBad1 (A : Option Addr) (n c : Nat) (l : List UInt8) (m : Nat) (w : World) (hr : Rd w A (bytesV l)) (hn : l.length = n) (hc : n ≤ c) (hm : n ≤ 140737488351232) (hnm : n / 512 = m) (hb : n % 512 ≠ 0) (hm1 : 1 ≤ m) (hm2 : m ≤ 8192) : Calls Try.prog 4 #[.slice A n c] w (Pure w (.bool true)) := by
  refine calls_tri (args := [.slice A n c]) (lent := []) (H := []) Try.func4 rfl Try.ntmps4 rfl (Sat.start _ _ _ _) ?_
  refine (show Tri _ [(0, _)] _ _ _ from ?_)
  have hR : ∀ cx H, cx.w0 = w → cx.lent = [] → RdS cx H A (bytesV l) := fun cx H h1 h2 => RdS.arg (by rw [h1]; exact hr) h2
  refine tri_seq ?_
  refine tri_region ?_
  refine o_assign rfl rfl ?_
  refine triL_nil ?_
  refine thenQ_normal ?_
  refine tri_seq ?_
  refine tri_region ?_
  refine o_move rfl rfl ?_
  refine o_callF (first := []) (cap := []) id rfl rfl rfl Try.call14 (fun w1 h1 => copyR A n c l w1 (h1.rd (hR _ _ rfl rfl)) hn (by omega)) (fun A8 c8 => ?_)
  refine TriX.know (fun w1 h1 => own_cap (h1.holds _ List.mem_cons_self)) (fun hc8 => ?_)
  refine o_assign rfl rfl ?_
  refine triL_nil ?_
  refine thenQ_normal ?_
  refine tri_seq ?_
  refine tri_region ?_
  refine o_move rfl rfl ?_
  refine o_callP (first := []) (cap := []) rfl rfl rfl Try.call19 (fun w1 h1 => loadBad1 A8 n c8 l m w1 (h1.rd (RdS.row .z)) hn hc8 (by omega) hnm hb hm1 hm2) ?_
  refine o_move rfl rfl ?_
  refine o_extract rfl rfl rfl ?_
  refine o_extract rfl rfl rfl ?_
  refine o_assign rfl rfl ?_
  refine o_assign rfl rfl ?_
  refine triL_nil ?_
  refine thenQ_normal ?_
  refine tri_seq ?_
  refine tri_seq ?_
  refine tri_slots [(5, _), (4, _), (3, _), (0, _)] (.cons rfl (.cons rfl (.cons rfl (.cons rfl (.nil _))))) ?_
  refine tri_region ?_
  refine o_assign rfl rfl ?_
  refine triL_nil ?_
  refine thenQ_normal ?_
  refine tri_block ?_
  refine tri_loop (ι := Nat × List UInt8) (F := fun q => [(0, .slice A n c), (3, .slice A8 n c8), (4, .pointer none), (5, .int .i64 5), (6, .int .i64 (q.1 : Int))]) (HH := fun q => (row (.slice A8 n c8) 5 1 n (bytesV q.2) :: [])) (Pu := fun q => q.1 ≤ n ∧ q.2.length = n) (μ := fun q => n - q.1) ((0, l)) (.cons rfl (.cons rfl (.cons rfl (.cons rfl (.cons rfl (.nil _)))))) (fun _ h => h) (⟨Nat.zero_le _, hn⟩) (fun q hi => ?_)
  refine tri_seq ?_
  refine tri_seq ?_
  refine tri_region ?_
  refine o_move rfl rfl ?_
  refine o_move rfl rfl ?_
  refine o_lenS Try.underlying32 rfl rfl ?_
  refine o_lss rfl rfl rfl ?_
  refine triL_nil ?_
  refine thenQ_normal ?_
  refine tri_if rfl (fun h3 => ?_) (fun h3 => ?_)
  · skip
    refine tri_skip ?_
    refine thenQ_normal ?_
    refine tri_seq ?_
    refine tri_block ?_
    refine tri_slots [(0, _), (3, _), (4, _), (5, _), (6, _)] (.cons rfl (.cons rfl (.cons rfl (.cons rfl (.cons rfl (.nil _)))))) ?_
    refine tri_region ?_
    refine o_move rfl rfl ?_
    refine o_move rfl rfl ?_
    refine o_move rfl rfl ?_
    refine o_move rfl rfl ?_
    refine o_idxS Try.underlying32 sz5 rfl rfl rfl (RdS.row (i := 0) .z) (by omega) (by omega) (by rw [bytesV_length]; omega) (by decide) ?_
    refine o_loadR agg5 rfl rfl (RdS.row (i := 0) .z) (rd_byte q.2 q.1 (by simp) (by omega)) ?_
    refine o_add rfl rfl rfl ?_
    rw [byte_inc]
    refine o_idxS Try.underlying32 sz5 rfl rfl rfl (RdS.row (i := 0) .z) (by omega) (by omega) (by rw [bytesV_length]; omega) (by decide) ?_
    refine o_storeR sz5 .z rfl rfl rfl rfl (by rw [bytesV_length]; omega) rfl ?_
    refine triL_nil ?_
    refine blockQ_normal ?_
    refine thenQ_normal ?_
    refine tri_slots [(0, _), (3, _), (4, _), (5, _), (6, _)] (.cons rfl (.cons rfl (.cons rfl (.cons rfl (.cons rfl (.nil _)))))) ?_
    refine tri_region ?_
    refine o_move rfl rfl ?_
    refine o_addN rfl rfl rfl (by omega) ?_
    refine o_assign rfl rfl ?_
    refine triL_nil ?_
    refine thenQ_normal ?_
    exact ⟨(q.1 + 1, q.2.set q.1 (q.2.getD q.1 0 + 1)), (.cons rfl (.cons rfl (.cons rfl (.cons rfl (.cons rfl (.nil _)))))), (fun w1 hw1 => by
  simp only [← bytesV_set]
  rw [show (q.1 : Int).toNat * 1 = q.1 by omega] at hw1
  exact hw1), ⟨by simp only; omega, by simp only [List.length_set]; exact hi.2⟩, (by simp only; omega)⟩
  · skip
    refine tri_exit ?_
    refine thenQ_exit ?_
    refine thenQ_exit ?_
    refine blockQ_here ?_
    refine thenQ_normal ?_
    refine tri_seq ?_
    refine tri_seq ?_
    refine tri_slots [(0, _), (4, _), (5, _)] (.cons rfl (.cons rfl (.cons rfl (.nil _)))) ?_
    refine tri_region ?_
    refine o_move rfl rfl ?_
    refine o_lenS Try.underlying32 rfl rfl ?_
    refine o_remN rfl rfl rfl (by omega) (by omega) ?_
    refine o_neqI rfl rfl rfl ?_
    refine o_move rfl rfl ?_
    refine' triL_or [_, _, _] [(0, _), (4, _), (5, _)] (dj := 32) (dr := 35) rfl rfl (fun g1 => ?_) ⟨_, rfl, rfl, rfl, (.cons rfl (.cons rfl (.cons rfl (.nil _))))⟩ rfl ?_
    rotate_left
    · skip
      skip
      refine o_move rfl rfl ?_
      refine o_lenS Try.underlying32 rfl rfl ?_
      refine o_eqlI rfl rfl rfl ?_
      exact triL_nil (Piece.mk rfl rfl (.cons rfl (.cons rfl (.cons rfl (.nil _)))) (fun _ h => h))
    refine o_move rfl rfl ?_
    refine' triL_or [_, _, _] [(0, _), (4, _), (5, _)] (dj := 37) (dr := 40) rfl rfl (fun g2 => ?_) ⟨_, rfl, rfl, rfl, (.cons rfl (.cons rfl (.cons rfl (.nil _))))⟩ rfl ?_
    rotate_left
    · skip
      skip
      refine o_move rfl rfl ?_
      refine o_lenS Try.underlying32 rfl rfl ?_
      refine o_gtr rfl rfl rfl ?_
      exact triL_nil (Piece.mk rfl rfl (.cons rfl (.cons rfl (.cons rfl (.nil _)))) (fun _ h => h))
    refine triL_nil ?_
    refine thenQ_normal ?_
    refine tri_cond rfl (fun h4 => ?_) (fun h4 => ?_)
    · skip
      refine tri_seq ?_
      refine tri_region ?_
      refine o_move rfl rfl ?_
      refine o_eqlNil Try.underlying24 rfl rfl rfl ?_
      refine o_move rfl rfl ?_
      refine' triL_and [_, _] [] (dj := 44) (dr := 46) rfl rfl (fun g3 => ?_) ⟨_, rfl, rfl, rfl, (.nil _)⟩ rfl ?_
      rotate_left
      · skip
        skip
        refine o_move rfl rfl ?_
        refine o_eqlI rfl rfl rfl ?_
        exact triL_nil (Piece.mk rfl rfl (.nil _) (fun _ h => h))
      refine o_move rfl rfl ?_
      refine' triL_and [_] [] (dj := 48) (dr := 49) rfl rfl (fun g4 => ?_) ⟨_, rfl, rfl, rfl, (.nil _)⟩ rfl ?_
      rotate_left
      · skip
        skip
        refine o_callP (first := []) (cap := []) rfl rfl rfl Try.call11 (fun w1 h1 => aliveL w1) ?_
        exact triL_nil (Piece.mk rfl rfl (.nil _) (fun _ h => h))
      refine o_assign rfl rfl ?_
      refine triL_nil ?_
      refine thenQ_normal ?_
      refine tri_ret ?_
      refine thenQ_ret ?_
      refine end1 rfl rfl ?_
      exact fun w1 hw1 => ⟨rfl, hw1.chg⟩
    · skip
      exact absurd h4 (by simp <;> omega)

theorem loadsBad2 (A : Option Addr) (n c : Nat) (l : List UInt8) (w : World) (hr : Rd w A (bytesV l)) (hn : l.length = n) (hc : n ≤ c) (hm : n ≤ 140737488351232) (hb : n / 512 < 1 ∨ 8192 < n / 512) : Calls Try.prog 4 #[.slice A n c] w (Pure w (.bool true)) := by
  refine calls_tri (args := [.slice A n c]) (lent := []) (H := []) Try.func4 rfl Try.ntmps4 rfl (Sat.start _ _ _ _) ?_
  refine (show Tri _ [(0, _)] _ _ _ from ?_)
  have hR : ∀ cx H, cx.w0 = w → cx.lent = [] → RdS cx H A (bytesV l) := fun cx H h1 h2 => RdS.arg (by rw [h1]; exact hr) h2
  refine tri_seq ?_
  refine tri_region ?_
  refine o_assign rfl rfl ?_
  refine triL_nil ?_
  refine thenQ_normal ?_
  refine tri_seq ?_
  refine tri_region ?_
  refine o_move rfl rfl ?_
  refine o_callF (first := []) (cap := []) id rfl rfl rfl Try.call14 (fun w1 h1 => copyR A n c l w1 (h1.rd (hR _ _ rfl rfl)) hn (by omega)) (fun A8 c8 => ?_)
  refine TriX.know (fun w1 h1 => own_cap (h1.holds _ List.mem_cons_self)) (fun hc8 => ?_)
  refine o_assign rfl rfl ?_
  refine triL_nil ?_
  refine thenQ_normal ?_
  refine tri_seq ?_
  refine tri_region ?_
  refine o_move rfl rfl ?_
  refine o_callP (first := []) (cap := []) rfl rfl rfl Try.call19 (fun w1 h1 => loadBad2 A8 n c8 l w1 (h1.rd (RdS.row .z)) hn hc8 (by omega) hb) ?_
  refine o_move rfl rfl ?_
  refine o_extract rfl rfl rfl ?_
  refine o_extract rfl rfl rfl ?_
  refine o_assign rfl rfl ?_
  refine o_assign rfl rfl ?_
  refine triL_nil ?_
  refine thenQ_normal ?_
  refine tri_seq ?_
  refine tri_seq ?_
  refine tri_slots [(5, _), (4, _), (3, _), (0, _)] (.cons rfl (.cons rfl (.cons rfl (.cons rfl (.nil _))))) ?_
  refine tri_region ?_
  refine o_assign rfl rfl ?_
  refine triL_nil ?_
  refine thenQ_normal ?_
  refine tri_block ?_
  refine tri_loop (ι := Nat × List UInt8) (F := fun q => [(0, .slice A n c), (3, .slice A8 n c8), (4, .pointer none), (5, .int .i64 5), (6, .int .i64 (q.1 : Int))]) (HH := fun q => (row (.slice A8 n c8) 5 1 n (bytesV q.2) :: [])) (Pu := fun q => q.1 ≤ n ∧ q.2.length = n) (μ := fun q => n - q.1) ((0, l)) (.cons rfl (.cons rfl (.cons rfl (.cons rfl (.cons rfl (.nil _)))))) (fun _ h => h) (⟨Nat.zero_le _, hn⟩) (fun q hi => ?_)
  refine tri_seq ?_
  refine tri_seq ?_
  refine tri_region ?_
  refine o_move rfl rfl ?_
  refine o_move rfl rfl ?_
  refine o_lenS Try.underlying32 rfl rfl ?_
  refine o_lss rfl rfl rfl ?_
  refine triL_nil ?_
  refine thenQ_normal ?_
  refine tri_if rfl (fun h3 => ?_) (fun h3 => ?_)
  · skip
    refine tri_skip ?_
    refine thenQ_normal ?_
    refine tri_seq ?_
    refine tri_block ?_
    refine tri_slots [(0, _), (3, _), (4, _), (5, _), (6, _)] (.cons rfl (.cons rfl (.cons rfl (.cons rfl (.cons rfl (.nil _)))))) ?_
    refine tri_region ?_
    refine o_move rfl rfl ?_
    refine o_move rfl rfl ?_
    refine o_move rfl rfl ?_
    refine o_move rfl rfl ?_
    refine o_idxS Try.underlying32 sz5 rfl rfl rfl (RdS.row (i := 0) .z) (by omega) (by omega) (by rw [bytesV_length]; omega) (by decide) ?_
    refine o_loadR agg5 rfl rfl (RdS.row (i := 0) .z) (rd_byte q.2 q.1 (by simp) (by omega)) ?_
    refine o_add rfl rfl rfl ?_
    rw [byte_inc]
    refine o_idxS Try.underlying32 sz5 rfl rfl rfl (RdS.row (i := 0) .z) (by omega) (by omega) (by rw [bytesV_length]; omega) (by decide) ?_
    refine o_storeR sz5 .z rfl rfl rfl rfl (by rw [bytesV_length]; omega) rfl ?_
    refine triL_nil ?_
    refine blockQ_normal ?_
    refine thenQ_normal ?_
    refine tri_slots [(0, _), (3, _), (4, _), (5, _), (6, _)] (.cons rfl (.cons rfl (.cons rfl (.cons rfl (.cons rfl (.nil _)))))) ?_
    refine tri_region ?_
    refine o_move rfl rfl ?_
    refine o_addN rfl rfl rfl (by omega) ?_
    refine o_assign rfl rfl ?_
    refine triL_nil ?_
    refine thenQ_normal ?_
    exact ⟨(q.1 + 1, q.2.set q.1 (q.2.getD q.1 0 + 1)), (.cons rfl (.cons rfl (.cons rfl (.cons rfl (.cons rfl (.nil _)))))), (fun w1 hw1 => by
  simp only [← bytesV_set]
  rw [show (q.1 : Int).toNat * 1 = q.1 by omega] at hw1
  exact hw1), ⟨by simp only; omega, by simp only [List.length_set]; exact hi.2⟩, (by simp only; omega)⟩
  · skip
    refine tri_exit ?_
    refine thenQ_exit ?_
    refine thenQ_exit ?_
    refine blockQ_here ?_
    refine thenQ_normal ?_
    refine tri_seq ?_
    refine tri_seq ?_
    refine tri_slots [(0, _), (4, _), (5, _)] (.cons rfl (.cons rfl (.cons rfl (.nil _)))) ?_
    refine tri_region ?_
    refine o_move rfl rfl ?_
    refine o_lenS Try.underlying32 rfl rfl ?_
    refine o_remN rfl rfl rfl (by omega) (by omega) ?_
    refine o_neqI rfl rfl rfl ?_
    refine o_move rfl rfl ?_
    refine' triL_or [_, _, _] [(0, _), (4, _), (5, _)] (dj := 32) (dr := 35) rfl rfl (fun g1 => ?_) ⟨_, rfl, rfl, rfl, (.cons rfl (.cons rfl (.cons rfl (.nil _))))⟩ rfl ?_
    rotate_left
    · skip
      skip
      refine o_move rfl rfl ?_
      refine o_lenS Try.underlying32 rfl rfl ?_
      refine o_eqlI rfl rfl rfl ?_
      exact triL_nil (Piece.mk rfl rfl (.cons rfl (.cons rfl (.cons rfl (.nil _)))) (fun _ h => h))
    refine o_move rfl rfl ?_
    refine' triL_or [_, _, _] [(0, _), (4, _), (5, _)] (dj := 37) (dr := 40) rfl rfl (fun g2 => ?_) ⟨_, rfl, rfl, rfl, (.cons rfl (.cons rfl (.cons rfl (.nil _))))⟩ rfl ?_
    rotate_left
    · skip
      skip
      refine o_move rfl rfl ?_
      refine o_lenS Try.underlying32 rfl rfl ?_
      refine o_gtr rfl rfl rfl ?_
      exact triL_nil (Piece.mk rfl rfl (.cons rfl (.cons rfl (.cons rfl (.nil _)))) (fun _ h => h))
    refine triL_nil ?_
    refine thenQ_normal ?_
    refine tri_cond rfl (fun h4 => ?_) (fun h4 => ?_)
    · skip
      refine tri_seq ?_
      refine tri_region ?_
      refine o_move rfl rfl ?_
      refine o_eqlNil Try.underlying24 rfl rfl rfl ?_
      refine o_move rfl rfl ?_
      refine' triL_and [_, _] [] (dj := 44) (dr := 46) rfl rfl (fun g3 => ?_) ⟨_, rfl, rfl, rfl, (.nil _)⟩ rfl ?_
      rotate_left
      · skip
        skip
        refine o_move rfl rfl ?_
        refine o_eqlI rfl rfl rfl ?_
        exact triL_nil (Piece.mk rfl rfl (.nil _) (fun _ h => h))
      refine o_move rfl rfl ?_
      refine' triL_and [_] [] (dj := 48) (dr := 49) rfl rfl (fun g4 => ?_) ⟨_, rfl, rfl, rfl, (.nil _)⟩ rfl ?_
      rotate_left
      · skip
        skip
        refine o_callP (first := []) (cap := []) rfl rfl rfl Try.call11 (fun w1 h1 => aliveL w1) ?_
        exact triL_nil (Piece.mk rfl rfl (.nil _) (fun _ h => h))
      refine o_assign rfl rfl ?_
      refine triL_nil ?_
      refine thenQ_normal ?_
      refine tri_ret ?_
      refine thenQ_ret ?_
      refine end1 rfl rfl ?_
      exact fun w1 hw1 => ⟨rfl, hw1.chg⟩
    · skip
      exfalso
      simp only [Bool.or_eq_false_iff, decide_eq_false_iff_not] at h4
      obtain ⟨⟨h5, h6⟩, h7⟩ := h4
      omega

theorem loads (A : Option Addr) (n c : Nat) (l : List UInt8) (m : Nat) (w : World) (hr : Rd w A (bytesV l)) (hn : l.length = n) (hc : n ≤ c) (hm : n ≤ 140737488351232) (hnm : n = m * 512) (hm1 : 1 ≤ m) (hm2 : m ≤ 8192) : Calls Try.prog 4 #[.slice A n c] w (Pure w (.bool true)) := by
  refine calls_tri (args := [.slice A n c]) (lent := []) (H := []) Try.func4 rfl Try.ntmps4 rfl (Sat.start _ _ _ _) ?_
  refine (show Tri _ [(0, _)] _ _ _ from ?_)
  have hR : ∀ cx H, cx.w0 = w → cx.lent = [] → RdS cx H A (bytesV l) := fun cx H h1 h2 => RdS.arg (by rw [h1]; exact hr) h2
  have hgl := Dk.load_good l m (by omega) hm2
  refine tri_seq ?_
  refine tri_region ?_
  refine o_assign rfl rfl ?_
  refine triL_nil ?_
  refine thenQ_normal ?_
  refine tri_seq ?_
  refine tri_region ?_
  refine o_move rfl rfl ?_
  refine o_callF (first := []) (cap := []) id rfl rfl rfl Try.call14 (fun w1 h1 => copyR A n c l w1 (h1.rd (hR _ _ rfl rfl)) hn (by omega)) (fun A8 c8 => ?_)
  refine TriX.know (fun w1 h1 => own_cap (h1.holds _ List.mem_cons_self)) (fun hc8 => ?_)
  refine o_assign rfl rfl ?_
  refine triL_nil ?_
  refine thenQ_normal ?_
  refine tri_seq ?_
  refine tri_region ?_
  refine o_move rfl rfl ?_
  refine o_callM [row (.slice A8 n c8) 5 1 n (bytesV l)] [] [] [] rfl rfl rfl rfl Try.call19 (fun c hc => by cases hc) (fun c hc => by cases hc) (fun w1 h1 _ => loadK A8 n c8 l m w1 (h1.rd (RdS.row .z)) hn hc8 (by omega) hnm hm1 hm2) (fun j _ => ?_)
  refine o_move rfl rfl ?_
  refine o_extract rfl rfl rfl ?_
  refine o_extract rfl rfl rfl ?_
  refine o_assign rfl rfl ?_
  refine o_assign rfl rfl ?_
  refine triL_nil ?_
  refine thenQ_normal ?_
  refine tri_seq ?_
  refine tri_seq ?_
  refine tri_slots [(5, _), (4, _), (3, _), (0, _)] (.cons rfl (.cons rfl (.cons rfl (.cons rfl (.nil _))))) ?_
  refine tri_region ?_
  refine o_assign rfl rfl ?_
  refine triL_nil ?_
  refine thenQ_normal ?_
  refine tri_block ?_
  refine tri_loop (ι := Nat × List UInt8) (F := fun q => [(0, .slice A n c), (3, .slice A8 n c8), (4, .pointer (some ⟨j.1, 0, none⟩)), (5, .int .i64 0), (6, .int .i64 (q.1 : Int))]) (HH := fun q => (row (.slice A8 n c8) 5 1 n (bytesV q.2) :: (dkC j.1 (some ⟨j.2, 0, none⟩) m none 0 (Dk.load l m)))) (Pu := fun q => q.1 ≤ n ∧ q.2.length = n) (μ := fun q => n - q.1) ((0, l)) (.cons rfl (.cons rfl (.cons rfl (.cons rfl (.cons rfl (.nil _)))))) (fun _ h => h) (⟨Nat.zero_le _, hn⟩) (fun q hi => ?_)
  refine tri_seq ?_
  refine tri_seq ?_
  refine tri_region ?_
  refine o_move rfl rfl ?_
  refine o_move rfl rfl ?_
  refine o_lenS Try.underlying32 rfl rfl ?_
  refine o_lss rfl rfl rfl ?_
  refine triL_nil ?_
  refine thenQ_normal ?_
  refine tri_if rfl (fun h3 => ?_) (fun h3 => ?_)
  · skip
    refine tri_skip ?_
    refine thenQ_normal ?_
    refine tri_seq ?_
    refine tri_block ?_
    refine tri_slots [(0, _), (3, _), (4, _), (5, _), (6, _)] (.cons rfl (.cons rfl (.cons rfl (.cons rfl (.cons rfl (.nil _)))))) ?_
    refine tri_region ?_
    refine o_move rfl rfl ?_
    refine o_move rfl rfl ?_
    refine o_move rfl rfl ?_
    refine o_move rfl rfl ?_
    refine o_idxS Try.underlying32 sz5 rfl rfl rfl (RdS.row (i := 0) .z) (by omega) (by omega) (by rw [bytesV_length]; omega) (by decide) ?_
    refine o_loadR agg5 rfl rfl (RdS.row (i := 0) .z) (rd_byte q.2 q.1 (by simp) (by omega)) ?_
    refine o_add rfl rfl rfl ?_
    rw [byte_inc]
    refine o_idxS Try.underlying32 sz5 rfl rfl rfl (RdS.row (i := 0) .z) (by omega) (by omega) (by rw [bytesV_length]; omega) (by decide) ?_
    refine o_storeR sz5 .z rfl rfl rfl rfl (by rw [bytesV_length]; omega) rfl ?_
    refine triL_nil ?_
    refine blockQ_normal ?_
    refine thenQ_normal ?_
    refine tri_slots [(0, _), (3, _), (4, _), (5, _), (6, _)] (.cons rfl (.cons rfl (.cons rfl (.cons rfl (.cons rfl (.nil _)))))) ?_
    refine tri_region ?_
    refine o_move rfl rfl ?_
    refine o_addN rfl rfl rfl (by omega) ?_
    refine o_assign rfl rfl ?_
    refine triL_nil ?_
    refine thenQ_normal ?_
    exact ⟨(q.1 + 1, q.2.set q.1 (q.2.getD q.1 0 + 1)), (.cons rfl (.cons rfl (.cons rfl (.cons rfl (.cons rfl (.nil _)))))), (fun w1 hw1 => by
  simp only [← bytesV_set]
  rw [show (q.1 : Int).toNat * 1 = q.1 by omega] at hw1
  exact hw1), ⟨by simp only; omega, by simp only [List.length_set]; exact hi.2⟩, (by simp only; omega)⟩
  · skip
    refine tri_exit ?_
    refine thenQ_exit ?_
    refine thenQ_exit ?_
    refine blockQ_here ?_
    refine thenQ_normal ?_
    refine tri_seq ?_
    refine tri_seq ?_
    refine tri_slots [(0, _), (4, _), (5, _)] (.cons rfl (.cons rfl (.cons rfl (.nil _)))) ?_
    refine tri_region ?_
    refine o_move rfl rfl ?_
    refine o_lenS Try.underlying32 rfl rfl ?_
    refine o_remN rfl rfl rfl (by omega) (by omega) ?_
    refine o_neqI rfl rfl rfl ?_
    refine o_move rfl rfl ?_
    refine' triL_or [_, _, _] [(0, _), (4, _), (5, _)] (dj := 32) (dr := 35) rfl rfl (fun g1 => ?_) ⟨_, rfl, rfl, rfl, (.cons rfl (.cons rfl (.cons rfl (.nil _))))⟩ rfl ?_
    rotate_left
    · skip
      skip
      refine o_move rfl rfl ?_
      refine o_lenS Try.underlying32 rfl rfl ?_
      refine o_eqlI rfl rfl rfl ?_
      exact triL_nil (Piece.mk rfl rfl (.cons rfl (.cons rfl (.cons rfl (.nil _)))) (fun _ h => h))
    refine o_move rfl rfl ?_
    refine' triL_or [_, _, _] [(0, _), (4, _), (5, _)] (dj := 37) (dr := 40) rfl rfl (fun g2 => ?_) ⟨_, rfl, rfl, rfl, (.cons rfl (.cons rfl (.cons rfl (.nil _))))⟩ rfl ?_
    rotate_left
    · skip
      skip
      refine o_move rfl rfl ?_
      refine o_lenS Try.underlying32 rfl rfl ?_
      refine o_gtr rfl rfl rfl ?_
      exact triL_nil (Piece.mk rfl rfl (.cons rfl (.cons rfl (.cons rfl (.nil _)))) (fun _ h => h))
    refine triL_nil ?_
    refine thenQ_normal ?_
    refine tri_cond rfl (fun h4 => ?_) (fun h4 => ?_)
    · skip
      exfalso
      simp only [Bool.or_eq_true, decide_eq_true_eq] at h4
      rcases h4 with (h5 | h5) | h5 <;> omega
    · skip
      refine tri_skip ?_
      refine thenQ_normal ?_
      refine tri_seq ?_
      refine tri_mixN (_) [(0, 2), (1, 2), (2, 2), (3, 2), (4, 2), (5, 2), (6, 2), (7, 2), (8, 1), (9, 2), (10, 2), (11, 2), (12, 2), (13, 2), (14, 2), (15, 2), (18, 2), (19, 2), (16, 0), (17, 1), (20, 2), (21, 2), (22, 2), (23, 2), (24, 1), (25, 2), (26, 2), (27, 2), (28, 2), (29, 1), (30, 2), (31, 2), (32, 2), (33, 2), (34, 1), (35, 2), (36, 2), (37, 2), (38, 2), (39, 2), (40, 2), (41, 2)] [16] (by kernel_rfl) (by kernel_rfl) (fun _ h => h) ?_
      refine mixN_free rfl ?_
      refine o_move rfl rfl ?_
      refine triL_nil ⟨rfl, ?_⟩
      refine mixN_free rfl ?_
      refine o_eqlI rfl rfl rfl ?_
      refine triL_nil ⟨rfl, ?_⟩
      refine mixN_free rfl ?_
      refine o_move rfl rfl ?_
      refine triL_nil ⟨rfl, ?_⟩
      refine mixN_free rfl ?_
      refine o_move rfl rfl ?_
      refine triL_nil ⟨rfl, ?_⟩
      refine mixN_free rfl ?_
      refine o_neqNil Try.underlying24 rfl rfl rfl ?_
      refine triL_nil ⟨rfl, ?_⟩
      refine mixN_free rfl ?_
      refine o_pickT rfl rfl rfl rfl ?_
      refine triL_nil ⟨rfl, ?_⟩
      refine mixN_free rfl ?_
      refine o_move rfl rfl ?_
      refine triL_nil ⟨rfl, ?_⟩
      refine mixN_free rfl ?_
      refine o_move rfl rfl ?_
      refine triL_nil ⟨rfl, ?_⟩
      refine mixN_fix rfl ?_
      refine o_callP (first := []) (cap := []) rfl rfl rfl Try.call20 (fun w1 h1 => sectorsK j.1 (some ⟨j.2, 0, none⟩) m none 0 (Dk.load l m) w1 (h1.rd (RdS.box (i := 1) (.s .z)))) ?_
      refine triL_nil ⟨rfl, ?_⟩
      refine mixN_free rfl ?_
      refine o_move rfl rfl ?_
      refine triL_nil ⟨rfl, ?_⟩
      refine mixN_free rfl ?_
      refine o_lenS Try.underlying32 rfl rfl ?_
      refine triL_nil ⟨rfl, ?_⟩
      refine mixN_free rfl ?_
      refine o_quoN rfl rfl rfl (by omega) (by omega) (by omega) ?_
      refine triL_nil ⟨rfl, ?_⟩
      refine mixN_free rfl ?_
      refine o_eqlIT (by show ((secs l m m).length : Int) = _; rw [secs_length]; omega) rfl rfl rfl ?_
      refine triL_nil ⟨rfl, ?_⟩
      refine mixN_free rfl ?_
      refine o_pickT rfl rfl rfl rfl ?_
      refine triL_nil ⟨rfl, ?_⟩
      refine mixN_free rfl ?_
      refine o_move rfl rfl ?_
      refine triL_nil ⟨rfl, ?_⟩
      refine mixN_free rfl ?_
      refine o_move rfl rfl ?_
      refine triL_nil ⟨rfl, ?_⟩
      refine mixN_free rfl ?_
      refine o_move rfl rfl ?_
      refine triL_nil ⟨rfl, ?_⟩
      refine mixN_free rfl ?_
      refine o_toText (l := l) Try.underlying32 Try.underlying5 Try.underlying9 rfl rfl (hR _ _ rfl rfl) hn.symm ?_
      refine triL_nil ⟨rfl, ?_⟩
      refine mixN_op rfl rfl ?_
      refine o_callF (first := []) (cap := []) id rfl rfl rfl Try.call21 (fun w1 h1 => imageK j.1 (some ⟨j.2, 0, none⟩) m none 0 (Dk.load l m) w1 (h1.rd (RdS.box (i := 1) (.s .z))) (h1.rd (RdS.row (i := 2) (.s (.s .z)))) hgl) (fun A67 c67 => ?_)
      refine triL_nil ⟨rfl, ?_⟩
      refine mixN_fix rfl ?_
      refine o_toText (l := (Dk.load l m).image) Try.underlying32 Try.underlying5 Try.underlying9 rfl rfl (RdS.row (i := 0) .z) rfl ?_
      refine triL_nil ⟨rfl, ?_⟩
      refine mixN_free rfl ?_
      refine o_eqlSame rfl rfl rfl (secs_flat l m (by omega)) ?_
      refine triL_nil ⟨rfl, ?_⟩
      refine mixN_free rfl ?_
      refine o_pickT rfl rfl rfl rfl ?_
      refine triL_nil ⟨rfl, ?_⟩
      refine mixN_free rfl ?_
      refine o_move rfl rfl ?_
      refine triL_nil ⟨rfl, ?_⟩
      refine mixN_free rfl ?_
      refine o_move rfl rfl ?_
      refine triL_nil ⟨rfl, ?_⟩
      refine mixN_fix rfl ?_
      refine o_callP (first := []) (cap := []) rfl rfl rfl Try.call16 (fun w1 h1 => pendingK j.1 (some ⟨j.2, 0, none⟩) m none 0 (Dk.load l m) w1 (h1.rd (RdS.box (i := 2) (.s (.s .z))))) ?_
      refine triL_nil ⟨rfl, ?_⟩
      refine mixN_free rfl ?_
      refine o_eqlIT rfl rfl rfl rfl ?_
      refine triL_nil ⟨rfl, ?_⟩
      refine mixN_free rfl ?_
      refine o_pickT rfl rfl rfl rfl ?_
      refine triL_nil ⟨rfl, ?_⟩
      refine mixN_free rfl ?_
      refine o_move rfl rfl ?_
      refine triL_nil ⟨rfl, ?_⟩
      refine mixN_free rfl ?_
      refine o_move rfl rfl ?_
      refine triL_nil ⟨rfl, ?_⟩
      refine mixN_fix rfl ?_
      refine o_callP (first := []) (cap := []) rfl rfl rfl Try.call22 (fun w1 h1 => darkK j.1 (some ⟨j.2, 0, none⟩) m none 0 (Dk.load l m) w1 (h1.rd (RdS.box (i := 2) (.s (.s .z))))) ?_
      refine triL_nil ⟨rfl, ?_⟩
      refine mixN_free rfl ?_
      refine o_not rfl rfl ?_
      refine triL_nil ⟨rfl, ?_⟩
      refine mixN_free rfl ?_
      refine o_pickT rfl rfl rfl rfl ?_
      refine triL_nil ⟨rfl, ?_⟩
      refine mixN_free rfl ?_
      refine o_move rfl rfl ?_
      refine triL_nil ⟨rfl, ?_⟩
      refine mixN_free rfl ?_
      refine o_move rfl rfl ?_
      refine triL_nil ⟨rfl, ?_⟩
      refine mixN_fix rfl ?_
      refine o_callP (first := []) (cap := []) rfl rfl rfl Try.call23 (fun w1 h1 => countsK j.1 (some ⟨j.2, 0, none⟩) m none 0 (Dk.load l m) w1 (h1.rd (RdS.box (i := 2) (.s (.s .z))))) ?_
      refine triL_nil ⟨rfl, ?_⟩
      refine mixN_free rfl ?_
      refine o_build built47 rfl rfl ?_
      refine triL_nil ⟨rfl, ?_⟩
      refine mixN_free rfl ?_
      refine o_eqlAT flat47 rfl (same3 _ _ _) rfl rfl rfl ?_
      refine triL_nil ⟨rfl, ?_⟩
      refine mixN_free rfl ?_
      refine o_pickT rfl rfl rfl rfl ?_
      refine triL_nil ⟨rfl, ?_⟩
      refine mixN_free rfl ?_
      refine o_move rfl rfl ?_
      refine triL_nil ⟨rfl, ?_⟩
      refine mixN_free rfl ?_
      refine o_callP (first := []) (cap := []) rfl rfl rfl Try.call11 (fun w1 h1 => aliveL w1) ?_
      refine triL_nil ⟨rfl, ?_⟩
      refine mixN_free rfl ?_
      refine o_pickT rfl rfl rfl rfl ?_
      refine triL_nil ⟨rfl, ?_⟩
      refine mixN_free rfl ?_
      refine o_assign rfl rfl ?_
      refine triL_nil ⟨rfl, ?_⟩
      refine mixN_nil ?_
      refine thenQ_normal ?_
      refine tri_ret ?_
      refine end1 rfl rfl ?_
      exact fun w1 hw1 => ⟨rfl, hw1.chg⟩

theorem nobody (A : Option Addr) (ln c : Nat) (l : List Stp) (w : World) (hr : Rd w A (stepsV l)) (hn : l.length = ln) (hst : ∀ s ∈ l, s.ok w []) (hsn : ∀ s ∈ l, s.n ≤ 140737488351232) : Calls Try.prog 7 #[.slice A ln c] w (Pure w (.bool true)) := by
  refine calls_tri (args := [.slice A ln c]) (lent := []) (H := []) Try.func7 rfl Try.ntmps7 rfl (Sat.start _ _ _ _) ?_
  refine (show Tri _ [(0, _)] _ _ _ from ?_)
  have hR : ∀ cx H, cx.w0 = w → cx.lent = [] → RdS cx H A (stepsV l) := fun cx H h1 h2 => RdS.arg (by rw [h1]; exact hr) h2
  refine tri_seq ?_
  refine tri_region ?_
  refine o_assign rfl rfl ?_
  refine triL_nil ?_
  refine thenQ_normal ?_
  refine tri_seq ?_
  refine tri_seq ?_
  refine tri_region ?_
  refine o_move rfl rfl ?_
  refine o_callP (first := []) (cap := []) rfl rfl rfl Try.call10 (fun w1 h1 => longL A ln c l w1 (h1.rd (hR _ _ rfl rfl)) hn) ?_
  refine triL_nil ?_
  refine thenQ_normal ?_
  refine tri_cond rfl (fun h0 => ?_) (fun h0 => ?_)
  · skip
    refine tri_seq ?_
    refine tri_slots [] (.nil _) ?_
    refine tri_region ?_
    refine o_callP (first := []) (cap := []) rfl rfl rfl Try.call11 (fun w1 h1 => aliveL w1) ?_
    refine o_assign rfl rfl ?_
    refine triL_nil ?_
    refine thenQ_normal ?_
    refine tri_ret ?_
    refine thenQ_ret ?_
    refine end1 rfl rfl ?_
    exact fun w1 hw1 => ⟨rfl, hw1.chg⟩
  · skip
    obtain ⟨hl1, hl2⟩ := longB_false h0
    refine tri_skip ?_
    refine thenQ_normal ?_
    refine tri_seq ?_
    refine tri_region ?_
    refine o_assign rfl rfl ?_
    refine triL_nil ?_
    refine thenQ_normal ?_
    refine tri_seq ?_
    refine tri_region ?_
    refine o_move rfl rfl ?_
    refine o_build built63 rfl rfl ?_
    refine o_box _ rfl rfl rfl (fun b18 => ?_)
    refine o_lit (parts := [_, _]) [.pointer none, .pointer (some ⟨b18, 0, none⟩)] Try.underlying64 zs24 rfl rfl rfl rfl (by decide) (by decide) (fun b19 => ?_)
    refine o_assign rfl rfl ?_
    refine triL_nil ?_
    refine thenQ_normal ?_
    refine tri_seq ?_
    refine tri_seq ?_
    refine tri_slots [(4, _), (0, _)] (.cons rfl (.cons rfl (.nil _))) ?_
    refine tri_region ?_
    refine o_assign rfl rfl ?_
    refine triL_nil ?_
    refine thenQ_normal ?_
    refine tri_block ?_
    refine tri_loop (ι := Nat × Option Addr × Nat) (F := fun q => [(0, .slice A ln c), (4, .slice (some ⟨b19, 0, none⟩) 2 2), (5, .int .i64 (q.1 : Int))]) (HH := fun q => ((dkC b18 none 0 q.2.1 q.2.2 Dk.none) ++ [row (.slice (some ⟨b19, 0, none⟩) 2 2) 24 1 2 [.pointer none, .pointer (some ⟨b18, 0, none⟩)]])) (Pu := fun q => q.1 ≤ 2) (μ := fun q => 2 - q.1) ((0, none, 0)) (.cons rfl (.cons rfl (.cons rfl (.nil _)))) (fun w1 hw => ((hw.nilRow 68 513).nilRow 66 512).perm (List.perm_append_comm (l₁ := [_, _, _]) (l₂ := [_]))) (Nat.zero_le _) (fun q hi => ?_)
    refine tri_seq ?_
    refine tri_seq ?_
    refine tri_region ?_
    refine o_move rfl rfl ?_
    refine o_lss rfl rfl rfl ?_
    refine triL_nil ?_
    refine thenQ_normal ?_
    refine tri_if rfl (fun h1 => ?_) (fun h1 => ?_)
    · skip
      refine tri_skip ?_
      refine thenQ_normal ?_
      refine tri_seq ?_
      refine tri_block ?_
      refine tri_seq ?_
      have hk2 : q.1 = 0 ∨ q.1 = 1 := by omega
      have hal : ∃ k0, k0 = q.1 := ⟨_, rfl⟩
      rcases hk2 with hk | hk
      · skip
        skip
        refine tri_region ?_
        refine o_move rfl rfl ?_
        refine o_move rfl rfl ?_
        refine o_idxS Try.underlying64 sz24 rfl rfl rfl (RdS.row (i := 3) (.s (.s (.s .z)))) (by omega) (by omega) rfl (by decide) ?_
        refine o_loadR (v := .pointer none) agg24 rfl rfl (RdS.row (i := 3) (.s (.s (.s .z)))) (by simp [hk]) ?_
        refine o_assign rfl rfl ?_
        refine triL_nil ?_
        refine thenQ_normal ?_
        refine tri_seq ?_
        refine tri_seq ?_
        refine tri_slots [(6, _), (0, _), (4, _), (5, _)] (.cons rfl (.cons rfl (.cons rfl (.cons rfl (.nil _))))) ?_
        refine tri_region ?_
        refine o_assign rfl rfl ?_
        refine triL_nil ?_
        refine thenQ_normal ?_
        refine tri_block ?_
        refine tri_loop (ι := Nat) (F := fun i => [(0, .slice A ln c), (4, .slice (some ⟨b19, 0, none⟩) 2 2), (5, .int .i64 (q.1 : Int)), (6, .pointer none), (7, .int .i64 (i : Int))]) (HH := fun i => ((dkC b18 none 0 q.2.1 q.2.2 Dk.none) ++ [row (.slice (some ⟨b19, 0, none⟩) 2 2) 24 1 2 [.pointer none, .pointer (some ⟨b18, 0, none⟩)]])) (Pu := fun i => i ≤ ln) (μ := fun i => ln - i) (0) (.cons rfl (.cons rfl (.cons rfl (.cons rfl (.cons rfl (.nil _)))))) (fun _ h => h) (Nat.zero_le _) (fun i hi2 => ?_)
        refine tri_seq ?_
        refine tri_seq ?_
        refine tri_region ?_
        refine o_move rfl rfl ?_
        refine o_move rfl rfl ?_
        refine o_lenS Try.underlying22 rfl rfl ?_
        refine o_lss rfl rfl rfl ?_
        refine triL_nil ?_
        refine thenQ_normal ?_
        refine tri_if rfl (fun h2 => ?_) (fun h2 => ?_)
        · skip
          refine tri_skip ?_
          refine thenQ_normal ?_
          refine tri_seq ?_
          refine tri_block ?_
          refine tri_seq ?_
          refine tri_slots [(0, _), (4, _), (5, _), (6, _), (7, _)] (.cons rfl (.cons rfl (.cons rfl (.cons rfl (.cons rfl (.nil _)))))) ?_
          refine tri_region ?_
          refine o_move rfl rfl ?_
          refine o_move rfl rfl ?_
          refine o_idxS Try.underlying22 sz35 rfl rfl rfl (hR _ _ rfl rfl) (by omega) (by omega) (by rw [steps_length, hn]) (by decide) ?_
          refine o_loadRA agg35 sz35 rfl rfl (hR _ _ rfl rfl) (steps_at l i (by omega)) rfl (by decide) ?_
          refine o_alloc _ rfl zero35 rfl (fun b8 => ?_)
          refine o_storeW sz35 .z rfl rfl rfl rfl rfl rfl (allOne_spec rfl) ?_
          refine triL_nil ?_
          refine thenQ_normal ?_
          refine tri_seq ?_
          refine tri_slots [(8, _), (0, _), (4, _), (5, _), (6, _), (7, _)] (.cons rfl (.cons rfl (.cons rfl (.cons rfl (.cons rfl (.cons rfl (.nil _))))))) ?_
          refine tri_region ?_
          refine o_move rfl rfl ?_
          refine o_field fo35_1 rfl rfl ?_
          refine o_load agg3 (by first | exact Nth.z | exact .s .z | exact .s (.s .z) | exact .s (.s (.s .z)) | exact .s (.s (.s (.s .z))) | exact .s (.s (.s (.s (.s .z)))) | exact .s (.s (.s (.s (.s (.s .z))))) | exact .s (.s (.s (.s (.s (.s (.s .z))))))) rfl rfl rfl ?_
          refine o_callP (first := []) (cap := []) rfl rfl rfl Try.call18 (fun w1 h1 => read0 (l.getD i Stp.nil).at_ w1) ?_
          refine o_move rfl rfl ?_
          refine o_extract rfl rfl rfl ?_
          refine o_extract rfl rfl rfl ?_
          refine o_assign rfl rfl ?_
          refine o_assign rfl rfl ?_
          refine triL_nil ?_
          refine thenQ_normal ?_
          refine tri_seq ?_
          refine tri_slots [(10, _), (9, _), (8, _), (0, _), (4, _), (5, _), (6, _), (7, _)] (.cons rfl (.cons rfl (.cons rfl (.cons rfl (.cons rfl (.cons rfl (.cons rfl (.cons rfl (.nil _))))))))) ?_
          refine tri_region ?_
          refine o_move rfl rfl ?_
          refine o_field fo35_1 rfl rfl ?_
          refine o_load agg3 (by first | exact Nth.z | exact .s .z | exact .s (.s .z) | exact .s (.s (.s .z)) | exact .s (.s (.s (.s .z))) | exact .s (.s (.s (.s (.s .z)))) | exact .s (.s (.s (.s (.s (.s .z))))) | exact .s (.s (.s (.s (.s (.s (.s .z))))))) rfl rfl rfl ?_
          refine o_field fo35_2 rfl rfl ?_
          refine o_load agg32 (by first | exact Nth.z | exact .s .z | exact .s (.s .z) | exact .s (.s (.s .z)) | exact .s (.s (.s (.s .z))) | exact .s (.s (.s (.s (.s .z)))) | exact .s (.s (.s (.s (.s (.s .z))))) | exact .s (.s (.s (.s (.s (.s (.s .z))))))) rfl rfl rfl ?_
          refine o_callP (first := []) (cap := []) rfl rfl rfl Try.call13 (fun w1 h1 => write0 (l.getD i Stp.nil).at_ (l.getD i Stp.nil).A (l.getD i Stp.nil).n (l.getD i Stp.nil).c w1) ?_
          refine o_assign rfl rfl ?_
          refine triL_nil ?_
          refine thenQ_normal ?_
          refine tri_seq ?_
          refine tri_slots [(11, _), (10, _), (9, _), (8, _), (0, _), (4, _), (5, _), (6, _), (7, _)] (.cons rfl (.cons rfl (.cons rfl (.cons rfl (.cons rfl (.cons rfl (.cons rfl (.cons rfl (.cons rfl (.nil _)))))))))) ?_
          refine tri_region ?_
          refine o_move rfl rfl ?_
          refine o_callP (first := []) (cap := []) rfl rfl rfl Try.call15 (fun w1 h1 => sync0 w1) ?_
          refine o_assign rfl rfl ?_
          refine triL_nil ?_
          refine thenQ_normal ?_
          refine tri_seq ?_
          refine tri_region ?_
          refine o_move rfl rfl ?_
          refine o_field fo35_3 rfl rfl ?_
          refine o_load agg3 (by first | exact Nth.z | exact .s .z | exact .s (.s .z) | exact .s (.s (.s .z)) | exact .s (.s (.s (.s .z))) | exact .s (.s (.s (.s (.s .z)))) | exact .s (.s (.s (.s (.s (.s .z))))) | exact .s (.s (.s (.s (.s (.s (.s .z))))))) rfl rfl rfl ?_
          refine o_callP (first := []) (cap := []) rfl rfl rfl Try.call27 (fun w1 h1 => trip0 (l.getD i Stp.nil).N w1) ?_
          refine triL_nil ?_
          refine thenQ_normal ?_
          refine tri_seq ?_
          refine tri_slots [(12, _), (11, _), (10, _), (9, _), (8, _), (0, _), (4, _), (5, _), (6, _), (7, _)] (.cons rfl (.cons rfl (.cons rfl (.cons rfl (.cons rfl (.cons rfl (.cons rfl (.cons rfl (.cons rfl (.cons rfl (.nil _))))))))))) ?_
          refine tri_region ?_
          refine o_move rfl rfl ?_
          refine o_field fo35_4 rfl rfl ?_
          refine o_load agg23 (by first | exact Nth.z | exact .s .z | exact .s (.s .z) | exact .s (.s (.s .z)) | exact .s (.s (.s (.s .z))) | exact .s (.s (.s (.s (.s .z)))) | exact .s (.s (.s (.s (.s (.s .z))))) | exact .s (.s (.s (.s (.s (.s (.s .z))))))) rfl rfl rfl ?_
          refine o_callP (first := []) (cap := []) rfl rfl rfl Try.call17 (fun w1 h1 => cut0 (l.getD i Stp.nil).KA (l.getD i Stp.nil).kn (l.getD i Stp.nil).kc w1) ?_
          refine triL_nil ?_
          refine thenQ_normal ?_
          refine tri_seq ?_
          refine tri_slots [(12, _), (11, _), (10, _), (9, _), (0, _), (4, _), (5, _), (6, _), (7, _)] (.cons rfl (.cons rfl (.cons rfl (.cons rfl (.cons rfl (.cons rfl (.cons rfl (.cons rfl (.cons rfl (.nil _)))))))))) ?_
          refine tri_region ?_
          refine o_move rfl rfl ?_
          refine o_lenS Try.underlying32 rfl rfl ?_
          refine o_neqIF rfl rfl rfl rfl ?_
          refine o_move rfl rfl ?_
          refine o_move rfl rfl ?_
          refine o_neqIF rfl rfl rfl rfl ?_
          refine o_pickF rfl rfl rfl rfl ?_
          refine o_move rfl rfl ?_
          refine o_move rfl rfl ?_
          refine o_neqIF rfl rfl rfl rfl ?_
          refine o_pickF rfl rfl rfl rfl ?_
          refine o_move rfl rfl ?_
          refine o_move rfl rfl ?_
          refine o_neqIF rfl rfl rfl rfl ?_
          refine o_pickF rfl rfl rfl rfl ?_
          refine o_move rfl rfl ?_
          refine o_move rfl rfl ?_
          refine o_callP (first := []) (cap := []) rfl rfl rfl Try.call22 (fun w1 h1 => dark0 w1) ?_
          refine o_pickF rfl rfl rfl rfl ?_
          refine triL_nil ?_
          refine thenQ_normal ?_
          refine tri_cond_false rfl ?_
          refine tri_skip ?_
          refine blockQ_normal ?_
          refine thenQ_normal ?_
          refine tri_slots [(0, _), (4, _), (5, _), (6, _), (7, _)] (.cons rfl (.cons rfl (.cons rfl (.cons rfl (.cons rfl (.nil _)))))) ?_
          refine tri_region ?_
          refine o_move rfl rfl ?_
          refine o_addN rfl rfl rfl (by omega) ?_
          refine o_assign rfl rfl ?_
          refine triL_nil ?_
          refine thenQ_normal ?_
          exact ⟨i + 1, (.cons rfl (.cons rfl (.cons rfl (.cons rfl (.cons rfl (.nil _)))))), (fun w1 hw => hw.tail), by omega, by omega⟩
        · skip
          refine tri_exit ?_
          refine thenQ_exit ?_
          refine thenQ_exit ?_
          refine blockQ_here ?_
          refine thenQ_normal ?_
          refine tri_seq ?_
          refine tri_slots [(0, _), (4, _), (5, _), (6, _)] (.cons rfl (.cons rfl (.cons rfl (.cons rfl (.nil _))))) ?_
          refine tri_region ?_
          refine o_move rfl rfl ?_
          refine o_callP (first := []) (cap := []) rfl rfl rfl Try.call20 (fun w1 h1 => sectors0 w1) ?_
          refine o_neqIF rfl rfl rfl rfl ?_
          refine o_move rfl rfl ?_
          refine o_move rfl rfl ?_
          refine o_callP (first := []) (cap := []) rfl rfl rfl Try.call16 (fun w1 h1 => pending0 w1) ?_
          refine o_neqIF rfl rfl rfl rfl ?_
          refine o_pickF rfl rfl rfl rfl ?_
          refine o_move rfl rfl ?_
          refine o_move rfl rfl ?_
          refine o_callP (first := []) (cap := []) rfl rfl rfl Try.call21 (fun w1 h1 => image0 w1) ?_
          refine o_lenS Try.underlying32 rfl rfl ?_
          refine o_neqIF rfl rfl rfl rfl ?_
          refine o_pickF rfl rfl rfl rfl ?_
          refine o_move rfl rfl ?_
          refine o_move rfl rfl ?_
          refine o_callP (first := []) (cap := []) rfl rfl rfl Try.call23 (fun w1 h1 => counts0 w1) ?_
          refine o_build built47 rfl rfl ?_
          refine o_neqAF flat47 rfl (same3 _ _ _) rfl rfl rfl ?_
          refine o_pickF rfl rfl rfl rfl ?_
          refine triL_nil ?_
          refine thenQ_normal ?_
          refine tri_cond_false rfl ?_
          refine tri_skip ?_
          refine blockQ_normal ?_
          refine thenQ_normal ?_
          refine tri_slots [(0, _), (4, _), (5, _)] (.cons rfl (.cons rfl (.cons rfl (.nil _)))) ?_
          refine tri_region ?_
          refine o_move rfl rfl ?_
          refine o_addN rfl rfl rfl (by omega) ?_
          refine o_assign rfl rfl ?_
          refine triL_nil ?_
          refine thenQ_normal ?_
          exact ⟨(q.1 + 1, q.2.1, q.2.2), (.cons rfl (.cons rfl (.cons rfl (.nil _)))), fun _ h => h, by simp only; omega, (by simp only; omega)⟩
      · skip
        skip
        refine tri_region ?_
        refine o_move rfl rfl ?_
        refine o_move rfl rfl ?_
        refine o_idxS Try.underlying64 sz24 rfl rfl rfl (RdS.row (i := 3) (.s (.s (.s .z)))) (by omega) (by omega) rfl (by decide) ?_
        refine o_loadR (v := .pointer (some ⟨b18, 0, none⟩)) agg24 rfl rfl (RdS.row (i := 3) (.s (.s (.s .z)))) (by simp [hk]) ?_
        refine o_assign rfl rfl ?_
        refine triL_nil ?_
        refine thenQ_normal ?_
        refine tri_seq ?_
        refine tri_seq ?_
        refine tri_slots [(6, _), (0, _), (4, _), (5, _)] (.cons rfl (.cons rfl (.cons rfl (.cons rfl (.nil _))))) ?_
        refine tri_region ?_
        refine o_assign rfl rfl ?_
        refine triL_nil ?_
        refine thenQ_normal ?_
        refine tri_block ?_
        refine tri_loop (ι := Nat × Option Addr × Nat) (F := fun q2 => [(0, .slice A ln c), (4, .slice (some ⟨b19, 0, none⟩) 2 2), (5, .int .i64 (q.1 : Int)), (6, .pointer (some ⟨b18, 0, none⟩)), (7, .int .i64 (q2.1 : Int))]) (HH := fun q2 => ((dkC b18 none 0 q2.2.1 q2.2.2 Dk.none) ++ [row (.slice (some ⟨b19, 0, none⟩) 2 2) 24 1 2 [.pointer none, .pointer (some ⟨b18, 0, none⟩)]])) (Pu := fun q2 => q2.1 ≤ ln) (μ := fun q2 => ln - q2.1) ((0, q.2.1, q.2.2)) (.cons rfl (.cons rfl (.cons rfl (.cons rfl (.cons rfl (.nil _)))))) (fun _ h => h) (Nat.zero_le _) (fun q2 hi2 => ?_)
        refine tri_seq ?_
        refine tri_seq ?_
        refine tri_region ?_
        refine o_move rfl rfl ?_
        refine o_move rfl rfl ?_
        refine o_lenS Try.underlying22 rfl rfl ?_
        refine o_lss rfl rfl rfl ?_
        refine triL_nil ?_
        refine thenQ_normal ?_
        refine tri_if rfl (fun h2 => ?_) (fun h2 => ?_)
        · skip
          refine tri_skip ?_
          refine thenQ_normal ?_
          refine tri_seq ?_
          refine tri_block ?_
          refine tri_seq ?_
          refine tri_slots [(0, _), (4, _), (5, _), (6, _), (7, _)] (.cons rfl (.cons rfl (.cons rfl (.cons rfl (.cons rfl (.nil _)))))) ?_
          refine tri_region ?_
          refine o_move rfl rfl ?_
          refine o_move rfl rfl ?_
          refine o_idxS Try.underlying22 sz35 rfl rfl rfl (hR _ _ rfl rfl) (by omega) (by omega) (by rw [steps_length, hn]) (by decide) ?_
          refine o_loadRA agg35 sz35 rfl rfl (hR _ _ rfl rfl) (steps_at l q2.1 (by omega)) rfl (by decide) ?_
          refine o_alloc _ rfl zero35 rfl (fun b8 => ?_)
          refine o_storeW sz35 .z rfl rfl rfl rfl rfl rfl (allOne_spec rfl) ?_
          refine triL_nil ?_
          refine thenQ_normal ?_
          refine tri_seq ?_
          refine tri_slots [(8, _), (0, _), (4, _), (5, _), (6, _), (7, _)] (.cons rfl (.cons rfl (.cons rfl (.cons rfl (.cons rfl (.cons rfl (.nil _))))))) ?_
          refine tri_region ?_
          refine o_move rfl rfl ?_
          refine o_field fo35_1 rfl rfl ?_
          refine o_load agg3 (by first | exact Nth.z | exact .s .z | exact .s (.s .z) | exact .s (.s (.s .z)) | exact .s (.s (.s (.s .z))) | exact .s (.s (.s (.s (.s .z)))) | exact .s (.s (.s (.s (.s (.s .z))))) | exact .s (.s (.s (.s (.s (.s (.s .z))))))) rfl rfl rfl ?_
          refine o_callM [box b8 35 (stepV (l.getD q2.1 Stp.nil))] (dkC b18 none 0 q2.2.1 q2.2.2 Dk.none) [row (.slice (some ⟨b19, 0, none⟩) 2 2) 24 1 2 [.pointer none, .pointer (some ⟨b18, 0, none⟩)]] (dkF b18 none q2.2.1) rfl rfl rfl rfl Try.call18 dk_lend dk_lend' (fun w1 h1 h2 => readK b18 none 0 q2.2.1 q2.2.2 Dk.none (l.getD q2.1 Stp.nil).at_ w1 h2.cx none_good (Nat.zero_le _)) (fun u _ => ?_)
          rw [none_read]
          dsimp only [List.length_nil]
          refine o_move rfl rfl ?_
          refine o_extract rfl rfl rfl ?_
          refine o_extract rfl rfl rfl ?_
          refine o_assign rfl rfl ?_
          refine o_assign rfl rfl ?_
          refine triL_nil ?_
          refine thenQ_normal ?_
          refine tri_seq ?_
          refine tri_slots [(10, _), (9, _), (8, _), (0, _), (4, _), (5, _), (6, _), (7, _)] (.cons rfl (.cons rfl (.cons rfl (.cons rfl (.cons rfl (.cons rfl (.cons rfl (.cons rfl (.nil _))))))))) ?_
          refine tri_region ?_
          refine o_move rfl rfl ?_
          refine o_field fo35_1 rfl rfl ?_
          refine o_load agg3 (by first | exact Nth.z | exact .s .z | exact .s (.s .z) | exact .s (.s (.s .z)) | exact .s (.s (.s (.s .z))) | exact .s (.s (.s (.s (.s .z)))) | exact .s (.s (.s (.s (.s (.s .z))))) | exact .s (.s (.s (.s (.s (.s (.s .z))))))) rfl rfl rfl ?_
          refine o_field fo35_2 rfl rfl ?_
          refine o_load agg32 (by first | exact Nth.z | exact .s .z | exact .s (.s .z) | exact .s (.s (.s .z)) | exact .s (.s (.s (.s .z))) | exact .s (.s (.s (.s (.s .z)))) | exact .s (.s (.s (.s (.s (.s .z))))) | exact .s (.s (.s (.s (.s (.s (.s .z))))))) rfl rfl rfl ?_
          refine o_callM [box b8 35 (stepV (l.getD q2.1 Stp.nil)), row (.slice u.1 0 u.2) 66 1 0 (bytesV [])] (dkC b18 none 0 q2.2.1 q2.2.2 Dk.none) [row (.slice (some ⟨b19, 0, none⟩) 2 2) 24 1 2 [.pointer none, .pointer (some ⟨b18, 0, none⟩)]] (dkF b18 none q2.2.1) rfl rfl rfl rfl Try.call13 dk_lend dk_lend' (fun w1 h1 h2 => writeK b18 none 0 q2.2.1 q2.2.2 Dk.none (l.getD q2.1 Stp.nil).at_ (l.getD q2.1 Stp.nil).A (l.getD q2.1 Stp.nil).n (l.getD q2.1 Stp.nil).c (l.getD q2.1 Stp.nil).b w1 h2.cx none_good (Nat.zero_le _) (Stp.call (L := [box b8 35 (stepV (l.getD q2.1 Stp.nil)), row (.slice u.1 0 u.2) 66 1 0 (bytesV [])]) (D := (dkC b18 none 0 q2.2.1 q2.2.2 Dk.none)) (R := [row (.slice (some ⟨b19, 0, none⟩) 2 2) 24 1 2 [.pointer none, .pointer (some ⟨b18, 0, none⟩)]]) (hst _ (getD_memS l q2.1 (by omega))) h1 dk_lend').1 (hst _ (getD_memS l q2.1 (by omega))).2.1) (fun v _ => ?_)
          rw [none_write]
          dsimp only
          refine o_assign rfl rfl ?_
          refine triL_nil ?_
          refine thenQ_normal ?_
          refine tri_seq ?_
          refine tri_slots [(11, _), (10, _), (9, _), (8, _), (0, _), (4, _), (5, _), (6, _), (7, _)] (.cons rfl (.cons rfl (.cons rfl (.cons rfl (.cons rfl (.cons rfl (.cons rfl (.cons rfl (.cons rfl (.nil _)))))))))) ?_
          refine tri_region ?_
          refine o_move rfl rfl ?_
          refine o_callM [box b8 35 (stepV (l.getD q2.1 Stp.nil)), row (.slice u.1 0 u.2) 66 1 0 (bytesV [])] (dkC b18 none 0 v.1 v.2 Dk.none) [row (.slice (some ⟨b19, 0, none⟩) 2 2) 24 1 2 [.pointer none, .pointer (some ⟨b18, 0, none⟩)]] (dkF b18 none v.1) rfl rfl rfl rfl Try.call15 dk_lend dk_lend' (fun w1 h1 h2 => syncK b18 none 0 v.1 v.2 Dk.none w1 h2.cx none_good (Nat.zero_le _)) (fun _ _ => ?_)
          rw [none_sync]
          dsimp only
          refine o_assign rfl rfl ?_
          refine triL_nil ?_
          refine thenQ_normal ?_
          refine tri_seq ?_
          refine tri_region ?_
          refine o_move rfl rfl ?_
          refine o_field fo35_3 rfl rfl ?_
          refine o_load agg3 (by first | exact Nth.z | exact .s .z | exact .s (.s .z) | exact .s (.s (.s .z)) | exact .s (.s (.s (.s .z))) | exact .s (.s (.s (.s (.s .z)))) | exact .s (.s (.s (.s (.s (.s .z))))) | exact .s (.s (.s (.s (.s (.s (.s .z))))))) rfl rfl rfl ?_
          refine o_callM [box b8 35 (stepV (l.getD q2.1 Stp.nil)), row (.slice u.1 0 u.2) 66 1 0 (bytesV [])] (dkC b18 none 0 v.1 v.2 Dk.none) [row (.slice (some ⟨b19, 0, none⟩) 2 2) 24 1 2 [.pointer none, .pointer (some ⟨b18, 0, none⟩)]] (dkF b18 none v.1) rfl rfl rfl rfl Try.call27 dk_lend dk_lend' (fun w1 h1 h2 => tripK b18 none 0 v.1 v.2 Dk.none (l.getD q2.1 Stp.nil).N w1 h2.cx) (fun _ _ => ?_)
          rw [none_arm]
          refine triL_nil ?_
          refine thenQ_normal ?_
          refine tri_seq ?_
          refine tri_slots [(12, _), (11, _), (10, _), (9, _), (8, _), (0, _), (4, _), (5, _), (6, _), (7, _)] (.cons rfl (.cons rfl (.cons rfl (.cons rfl (.cons rfl (.cons rfl (.cons rfl (.cons rfl (.cons rfl (.cons rfl (.nil _))))))))))) ?_
          refine tri_region ?_
          refine o_move rfl rfl ?_
          refine o_field fo35_4 rfl rfl ?_
          refine o_load agg23 (by first | exact Nth.z | exact .s .z | exact .s (.s .z) | exact .s (.s (.s .z)) | exact .s (.s (.s (.s .z))) | exact .s (.s (.s (.s (.s .z)))) | exact .s (.s (.s (.s (.s (.s .z))))) | exact .s (.s (.s (.s (.s (.s (.s .z))))))) rfl rfl rfl ?_
          refine o_callM [box b8 35 (stepV (l.getD q2.1 Stp.nil)), row (.slice u.1 0 u.2) 66 1 0 (bytesV [])] (dkC b18 none 0 v.1 v.2 Dk.none) [row (.slice (some ⟨b19, 0, none⟩) 2 2) 24 1 2 [.pointer none, .pointer (some ⟨b18, 0, none⟩)]] (dkF b18 none v.1) rfl rfl rfl rfl Try.call17 dk_lend dk_lend' (fun w1 h1 h2 => cutK b18 none 0 v.1 v.2 Dk.none (l.getD q2.1 Stp.nil).KA (l.getD q2.1 Stp.nil).kn (l.getD q2.1 Stp.nil).kc (l.getD q2.1 Stp.nil).keep w1 h2.cx none_good (Nat.zero_le _) (Stp.call (L := [box b8 35 (stepV (l.getD q2.1 Stp.nil)), row (.slice u.1 0 u.2) 66 1 0 (bytesV [])]) (D := (dkC b18 none 0 v.1 v.2 Dk.none)) (R := [row (.slice (some ⟨b19, 0, none⟩) 2 2) 24 1 2 [.pointer none, .pointer (some ⟨b18, 0, none⟩)]]) (hst _ (getD_memS l q2.1 (by omega))) h1 dk_lend').2.2.1 (hst _ (getD_memS l q2.1 (by omega))).2.2.2) (fun _ _ => ?_)
          rw [none_cut]
          refine triL_nil ?_
          refine thenQ_normal ?_
          refine tri_seq ?_
          refine tri_slots [(12, _), (11, _), (10, _), (9, _), (0, _), (4, _), (5, _), (6, _), (7, _)] (.cons rfl (.cons rfl (.cons rfl (.cons rfl (.cons rfl (.cons rfl (.cons rfl (.cons rfl (.cons rfl (.nil _)))))))))) ?_
          refine tri_region ?_
          refine o_move rfl rfl ?_
          refine o_lenS Try.underlying32 rfl rfl ?_
          refine o_neqIF rfl rfl rfl rfl ?_
          refine o_move rfl rfl ?_
          refine o_move rfl rfl ?_
          refine o_neqIF rfl rfl rfl rfl ?_
          refine o_pickF rfl rfl rfl rfl ?_
          refine o_move rfl rfl ?_
          refine o_move rfl rfl ?_
          refine o_neqIF rfl rfl rfl rfl ?_
          refine o_pickF rfl rfl rfl rfl ?_
          refine o_move rfl rfl ?_
          refine o_move rfl rfl ?_
          refine o_neqIF rfl rfl rfl rfl ?_
          refine o_pickF rfl rfl rfl rfl ?_
          refine o_move rfl rfl ?_
          refine o_move rfl rfl ?_
          refine o_callP (first := []) (cap := []) rfl rfl rfl Try.call22 (fun w1 h1 => darkK b18 none 0 v.1 v.2 Dk.none w1 (h1.rd (RdS.box (i := 2) (.s (.s .z))))) ?_
          refine o_pickF rfl rfl rfl rfl ?_
          refine triL_nil ?_
          refine thenQ_normal ?_
          refine tri_cond_false rfl ?_
          refine tri_skip ?_
          refine blockQ_normal ?_
          refine thenQ_normal ?_
          refine tri_slots [(0, _), (4, _), (5, _), (6, _), (7, _)] (.cons rfl (.cons rfl (.cons rfl (.cons rfl (.cons rfl (.nil _)))))) ?_
          refine tri_region ?_
          refine o_move rfl rfl ?_
          refine o_addN rfl rfl rfl (by omega) ?_
          refine o_assign rfl rfl ?_
          refine triL_nil ?_
          refine thenQ_normal ?_
          exact ⟨(q2.1 + 1, v.1, v.2), (.cons rfl (.cons rfl (.cons rfl (.cons rfl (.cons rfl (.nil _)))))), (fun w1 hw => hw.sublist (List.Sublist.cons _ (List.Sublist.cons _ (List.Sublist.refl _)))), by simp only; omega, (by simp only; omega)⟩
        · skip
          refine tri_exit ?_
          refine thenQ_exit ?_
          refine thenQ_exit ?_
          refine blockQ_here ?_
          refine thenQ_normal ?_
          refine tri_seq ?_
          refine tri_slots [(0, _), (4, _), (5, _), (6, _)] (.cons rfl (.cons rfl (.cons rfl (.cons rfl (.nil _))))) ?_
          refine tri_region ?_
          refine o_move rfl rfl ?_
          refine o_callP (first := []) (cap := []) rfl rfl rfl Try.call20 (fun w1 h1 => sectorsK b18 none 0 q2.2.1 q2.2.2 Dk.none w1 (h1.rd (RdS.box (i := 0) .z))) ?_
          refine o_neqIF rfl rfl rfl rfl ?_
          refine o_move rfl rfl ?_
          refine o_move rfl rfl ?_
          refine o_callP (first := []) (cap := []) rfl rfl rfl Try.call16 (fun w1 h1 => pendingK b18 none 0 q2.2.1 q2.2.2 Dk.none w1 (h1.rd (RdS.box (i := 0) .z))) ?_
          refine o_neqIF rfl rfl rfl rfl ?_
          refine o_pickF rfl rfl rfl rfl ?_
          refine o_move rfl rfl ?_
          refine o_move rfl rfl ?_
          refine o_callF (first := []) (cap := []) id rfl rfl rfl Try.call21 (fun w1 h1 => imageK b18 none 0 q2.2.1 q2.2.2 Dk.none w1 (h1.rd (RdS.box (i := 0) .z)) (h1.rd (RdS.row (i := 1) (.s .z))) none_good) (fun A90 c90 => ?_)
          refine o_lenS Try.underlying32 rfl rfl ?_
          refine o_neqIF rfl rfl rfl rfl ?_
          refine o_pickF rfl rfl rfl rfl ?_
          refine o_move rfl rfl ?_
          refine o_move rfl rfl ?_
          refine o_callP (first := []) (cap := []) rfl rfl rfl Try.call23 (fun w1 h1 => countsK b18 none 0 q2.2.1 q2.2.2 Dk.none w1 (h1.rd (RdS.box (i := 1) (.s .z)))) ?_
          refine o_build built47 rfl rfl ?_
          refine o_neqAF flat47 rfl (same3 _ _ _) rfl rfl rfl ?_
          refine o_pickF rfl rfl rfl rfl ?_
          refine triL_nil ?_
          refine thenQ_normal ?_
          refine tri_cond_false rfl ?_
          refine tri_skip ?_
          refine blockQ_normal ?_
          refine thenQ_normal ?_
          refine tri_slots [(0, _), (4, _), (5, _)] (.cons rfl (.cons rfl (.cons rfl (.nil _)))) ?_
          refine tri_region ?_
          refine o_move rfl rfl ?_
          refine o_addN rfl rfl rfl (by omega) ?_
          refine o_assign rfl rfl ?_
          refine triL_nil ?_
          refine thenQ_normal ?_
          exact ⟨(q.1 + 1, q2.2.1, q2.2.2), (.cons rfl (.cons rfl (.cons rfl (.nil _)))), (fun w1 hw => hw.tail), by simp only; omega, (by simp only; omega)⟩
    · skip
      refine tri_exit ?_
      refine thenQ_exit ?_
      refine thenQ_exit ?_
      refine blockQ_here ?_
      refine thenQ_normal ?_
      refine tri_seq ?_
      refine tri_slots [] (.nil _) ?_
      refine tri_region ?_
      refine o_callP (first := []) (cap := []) rfl rfl rfl Try.call11 (fun w1 h1 => aliveL w1) ?_
      refine o_assign rfl rfl ?_
      refine triL_nil ?_
      refine thenQ_normal ?_
      refine tri_ret ?_
      refine end1 rfl rfl ?_
      exact fun w1 hw1 => ⟨rfl, hw1.chg⟩

end Go.Proofs.Ytpnccaddbjbfhaa
