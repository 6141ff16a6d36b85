/- the law of what a cut keeps, walked -/
import Derived.Test.YtpnccaddbjbfhaaLaws2
import Derived.Test.YtpnccaddbjbfhaaDisk6
namespace Go.Proofs.Ytpnccaddbjbfhaa
open Go.WK Go.RowKit 

theorem zsb30 : (Try.prog.info? 30).map (fun i => (i.zero, i.size, i.bytes)) = some (some (.slice none 0 0), 1, 24) := by kernel_rfl
theorem zs30 : (Try.prog.info? 30).map (fun i => (i.zero, i.size)) = some (some (.slice none 0 0), 1) := by kernel_rfl

structure FileSt where
  i : Nat
  kr : List (Option Addr × Nat)
  F : List Nat
  pool : List PE
structure KS where
  i : Nat
  d : Dk
  a : Option Addr × Nat
  kr : List (Option Addr × Nat)
  L : List Rw
  F : List Nat
  pool : List PE
structure SS where
  k : Nat
  kr : List (Option Addr × Nat)
  L : List Rw
structure ES where
  k : Nat
  e : Dk

theorem any_snoc (l : List (List UInt8)) (b : List UInt8) (i : Nat) (h : i < l.length) : (l.take (i + 1)).any (fun s => decide (b = s)) = ((l.take i).any (fun s => decide (b = s)) || decide (b = l.getD i [])) := by
  rw [List.take_succ_eq_append_getElem h, List.any_append]
  simp [List.getD, h]

theorem keeps (A : Option Addr) (ln c : Nat) (l : List Stp) (KA : Option Addr) (kn kc : Nat) (keep : List Bool) (w : World) (hr : Rd w A (stepsV l)) (hn : l.length = ln) (hst : ∀ s ∈ l, s.ok w []) (hsn : ∀ s ∈ l, s.n ≤ 140737488351232) (hkr : Rd w KA (boolsV keep)) (hkn : keep.length = kn) : Calls Try.prog 3 #[.slice A ln c, .slice KA kn kc] w (Pure w (.bool true)) := by
  refine calls_tri (args := [.slice A ln c, .slice KA kn kc]) (lent := []) (H := []) Try.func3 rfl Try.ntmps3 rfl (Sat.start _ _ _ _) ?_
  refine (show Tri _ [(0, _), (1, _)] _ _ _ from ?_)
  have hR : ∀ cx H, cx.w0 = w → cx.lent = [] → RdS cx H A (stepsV l) := fun cx H h1 h2 => RdS.arg (by rw [h1]; exact hr) h2
  have hKK : ∀ cx H, cx.w0 = w → cx.lent = [] → RdS cx H KA (boolsV keep) := fun cx H h1 h2 => RdS.arg (by rw [h1]; exact hkr) h2
  refine tri_seq ?_
  refine tri_region ?_
  refine o_assign rfl rfl ?_
  refine triL_nil ?_
  refine thenQ_normal ?_
  refine tri_seq ?_
  refine tri_region ?_
  refine o_callM [] [] [] [] (vs := [.int .i64 4]) rfl rfl rfl rfl Try.call9 (fun c hc => by cases hc) (fun c hc => by cases hc) (fun w1 _ _ => newK 4 w1 (by decide) (by decide)) (fun j _ => ?_)
  refine o_move rfl rfl ?_
  refine o_extract rfl rfl rfl ?_
  refine o_extract rfl rfl rfl ?_
  refine o_assign rfl rfl ?_
  refine o_assign rfl rfl ?_
  refine triL_nil ?_
  refine thenQ_normal ?_
  refine tri_seq ?_
  refine tri_seq ?_
  refine tri_slots [(6, _), (5, _), (0, _), (1, _)] (.cons rfl (.cons rfl (.cons rfl (.cons rfl (.nil _))))) ?_
  refine tri_region ?_
  refine o_move rfl rfl ?_
  refine o_neqI rfl rfl rfl ?_
  refine o_move rfl rfl ?_
  refine' triL_or [_, _] [(5, _), (0, _), (1, _)] (dj := 29) (dr := 31) rfl rfl (fun g1 => ?_) ⟨_, rfl, rfl, rfl, (.cons rfl (.cons rfl (.cons rfl (.nil _))))⟩ rfl ?_
  rotate_left
  · skip
    skip
    refine o_move rfl rfl ?_
    refine o_eqlNil Try.underlying24 rfl rfl rfl ?_
    exact triL_nil (Piece.mk rfl rfl (.cons rfl (.cons rfl (.cons rfl (.nil _)))) (fun _ h => h))
  refine triL_nil ?_
  refine thenQ_normal ?_
  refine tri_cond rfl (fun h0 => ?_) (fun h0 => ?_)
  · skip
    exact absurd h0 (by simp)
  · skip
    refine tri_skip ?_
    refine thenQ_normal ?_
    refine tri_seq ?_
    refine tri_seq ?_
    refine tri_region ?_
    refine o_move rfl rfl ?_
    refine o_callP (first := []) (cap := []) rfl rfl rfl Try.call10 (fun w1 h1 => longL A ln c l w1 (h1.rd (hR _ _ rfl rfl)) hn) ?_
    refine o_move rfl rfl ?_
    refine' triL_or [_, _, _] [(5, _), (0, _), (1, _)] (dj := 35) (dr := 38) rfl rfl (fun g2 => ?_) ⟨_, rfl, rfl, rfl, (.cons rfl (.cons rfl (.cons rfl (.nil _))))⟩ rfl ?_
    rotate_left
    · skip
      skip
      refine o_move rfl rfl ?_
      refine o_lenS Try.underlying23 rfl rfl ?_
      refine o_gtr rfl rfl rfl ?_
      exact triL_nil (Piece.mk rfl rfl (.cons rfl (.cons rfl (.cons rfl (.nil _)))) (fun _ h => h))
    refine triL_nil ?_
    refine thenQ_normal ?_
    refine tri_cond rfl (fun h0 => ?_) (fun h0 => ?_)
    · skip
      refine tri_seq ?_
      refine tri_slots [] (.nil _) ?_
      refine tri_region ?_
      refine o_callP (first := []) (cap := []) rfl rfl rfl Try.call11 (fun w1 h1 => aliveL w1) ?_
      refine o_assign rfl rfl ?_
      refine triL_nil ?_
      refine thenQ_normal ?_
      refine tri_ret ?_
      refine thenQ_ret ?_
      refine end1 rfl rfl ?_
      exact fun w1 hw1 => ⟨rfl, hw1.chg⟩
    · skip
      have h0' : longB l = false ∧ ¬ 400 < kn := by
        simp only [Bool.or_eq_false_iff, decide_eq_false_iff_not] at h0
        exact ⟨h0.1, by omega⟩
      obtain ⟨hl1, hl2⟩ := longB_false h0'.1
      refine tri_skip ?_
      refine thenQ_normal ?_
      refine tri_seq ?_
      refine tri_region ?_
      refine o_make (n := 4) Try.underlying30 zsb32 rfl rfl rfl (by omega) (by omega) (by omega) (by unfold maxLen; omega) (fun b41 => ?_)
      refine o_assign rfl rfl ?_
      refine triL_nil ?_
      refine thenQ_normal ?_
      refine tri_seq ?_
      refine tri_region ?_
      refine o_make (n := 4) Try.underlying31 zsb30 rfl rfl rfl (by omega) (by omega) (by omega) (by unfold maxLen; omega) (fun b42 => ?_)
      refine o_assign rfl rfl ?_
      refine triL_nil ?_
      refine thenQ_normal ?_
      refine tri_seq ?_
      refine tri_seq ?_
      refine tri_region ?_
      refine o_assign rfl rfl ?_
      refine triL_nil ?_
      refine thenQ_normal ?_
      refine tri_block ?_
      refine tri_loop (ι := FileSt) (F := fun q0 => [(0, .slice A ln c), (1, .slice KA kn kc), (5, .pointer (some ⟨j.1, 0, none⟩)), (7, .slice (some ⟨b41, 0, none⟩) 4 4), (8, .slice (some ⟨b42, 0, none⟩) 4 4), (9, .int .i64 (q0.i : Int))]) (HH := fun q0 => (poolC q0.F q0.pool :: row (.slice (some ⟨b42, 0, none⟩) 4 4) 30 1 4 (sinceV (List.replicate 4 Rw.nil)) :: row (.slice (some ⟨b41, 0, none⟩) 4 4) 32 1 4 (refsV q0.kr ++ List.replicate (4 - q0.i) (.slice none 0 0)) :: (dkC j.1 (some ⟨j.2, 0, none⟩) 4 none 0 (Dk.new 4)))) (Pu := fun q0 => q0.i ≤ 4 ∧ q0.kr.length = q0.i ∧ okK q0.kr (List.replicate q0.i zsec) q0.pool) (μ := fun q0 => 4 - q0.i) (⟨0, [], [], []⟩) (.cons rfl (.cons rfl (.cons rfl (.cons rfl (.cons rfl (.cons rfl (.nil _))))))) (fun w1 hw => by
  have e1 : (madeCells (Value.cells (.slice none 0 0)) (4 * 1)).toList = List.replicate 4 (Value.slice none 0 0) := by kernel_rfl
  rw [e1] at hw
  exact hw.nilPool) (⟨Nat.zero_le _, rfl, okK_nil⟩) (fun q0 hi0 => ?_)
      refine tri_seq ?_
      refine tri_seq ?_
      refine tri_region ?_
      refine o_move rfl rfl ?_
      refine o_lss rfl rfl rfl ?_
      refine triL_nil ?_
      refine thenQ_normal ?_
      refine tri_if rfl (fun h2 => ?_) (fun h2 => ?_)
      · skip
        refine tri_skip ?_
        refine thenQ_normal ?_
        refine tri_seq ?_
        refine tri_block ?_
        refine tri_region ?_
        refine o_move rfl rfl ?_
        refine o_move rfl rfl ?_
        refine o_callF (first := []) (cap := []) (vs := [byteV 0]) id rfl rfl rfl Try.call12 (fun w1 h1 => fullL 0 w1) (fun A49 c49 => ?_)
        refine o_idxS Try.underlying30 sz32 rfl rfl rfl (RdS.row (i := 3) (.s (.s (.s .z)))) (by omega) (by omega) (fill_length q0.kr q0.i hi0.2.1 hi0.1) (by decide) ?_
        refine o_storeR sz32 (.s (.s (.s .z))) rfl rfl rfl rfl (by rw [fill_length q0.kr q0.i hi0.2.1 hi0.1]; omega) rfl ?_
        refine triL_nil ?_
        refine blockQ_normal ?_
        refine thenQ_normal ?_
        refine tri_slots [(0, _), (1, _), (5, _), (7, _), (8, _), (9, _)] (.cons rfl (.cons rfl (.cons rfl (.cons rfl (.cons rfl (.cons rfl (.nil _))))))) ?_
        refine tri_region ?_
        refine o_move rfl rfl ?_
        refine o_addN rfl rfl rfl (by omega) ?_
        refine o_assign rfl rfl ?_
        refine triL_nil ?_
        refine thenQ_normal ?_
        exact ⟨⟨q0.i + 1, q0.kr ++ [(A49, c49)], blk A49 ++ q0.F, (A49, c49, zsec) :: q0.pool⟩, (.cons rfl (.cons rfl (.cons rfl (.cons rfl (.cons rfl (.cons rfl (.nil _))))))), (fun w1 hw => by
  have e1 := refs_fill q0.kr q0.i hi0.2.1 (by omega) A49 c49
  simp only
  rw [← e1]
  exact Sat.pool hw (i := 0) .z), ⟨by simp only; omega, by simp only [List.length_append, List.length_singleton]; omega, by simp only [List.replicate_succ']; exact okK_snoc (okK_mono hi0.2.2 _) List.mem_cons_self⟩, (by simp only; omega)⟩
      · skip
        have hq4 : q0.i = 4 := by omega
        refine tri_exit ?_
        refine thenQ_exit ?_
        refine thenQ_exit ?_
        refine blockQ_here ?_
        refine thenQ_normal ?_
        refine tri_seq ?_
        refine tri_region ?_
        refine o_assign rfl rfl ?_
        refine triL_nil ?_
        refine thenQ_normal ?_
        refine tri_seq ?_
        refine tri_region ?_
        refine o_assign rfl rfl ?_
        refine triL_nil ?_
        refine thenQ_normal ?_
        refine tri_seq ?_
        refine tri_seq ?_
        refine tri_region ?_
        refine o_assign rfl rfl ?_
        refine triL_nil ?_
        refine thenQ_normal ?_
        refine tri_block ?_
        refine tri_loop (ι := KS) (F := fun q => [(0, .slice A ln c), (1, .slice KA kn kc), (5, .pointer (some ⟨j.1, 0, none⟩)), (7, .slice (some ⟨b41, 0, none⟩) 4 4), (8, .slice (some ⟨b42, 0, none⟩) 4 4), (10, .bool true), (11, .int .i64 (q.d.cache.length : Int)), (12, .int .i64 (q.i : Int))]) (HH := fun q => (poolC q.F q.pool :: row (.slice (some ⟨b42, 0, none⟩) 4 4) 30 1 4 (sinceV q.L) :: row (.slice (some ⟨b41, 0, none⟩) 4 4) 32 1 4 (refsV q.kr) :: ((dkC j.1 (some ⟨j.2, 0, none⟩) 4 q.a.1 q.a.2 q.d) ++ rowsC q.L))) (Pu := fun q => q.i ≤ ln ∧ q.d.cache.length ≤ q.i ∧ Kp q.d q.kr q.L q.pool) (μ := fun q => ln - q.i) (⟨0, Dk.new 4, (none, 0), q0.kr, List.replicate 4 Rw.nil, q0.F, q0.pool⟩) (.cons rfl (.cons rfl (.cons rfl (.cons rfl (.cons rfl (.cons rfl (.cons rfl (.cons rfl (.nil _))))))))) (fun w1 hw => by
  rw [hq4, fill_end] at hw
  exact hw.nilRows) (⟨Nat.zero_le _, Nat.zero_le _, kp_start _ _ (by have := hi0.2.2; rw [hq4] at this; exact this)⟩) (fun q hi => ?_)
        refine tri_seq ?_
        refine tri_seq ?_
        refine tri_region ?_
        refine o_move rfl rfl ?_
        refine o_move rfl rfl ?_
        refine o_lenS Try.underlying22 rfl rfl ?_
        refine o_lss rfl rfl rfl ?_
        refine triL_nil ?_
        refine thenQ_normal ?_
        refine tri_if rfl (fun h3 => ?_) (fun h3 => ?_)
        · skip
          refine tri_skip ?_
          refine thenQ_normal ?_
          refine tri_seq ?_
          refine tri_block ?_
          refine tri_seq ?_
          refine tri_slots [(0, _), (1, _), (5, _), (7, _), (8, _), (10, _), (11, _), (12, _)] (.cons rfl (.cons rfl (.cons rfl (.cons rfl (.cons rfl (.cons rfl (.cons rfl (.cons rfl (.nil _))))))))) ?_
          refine tri_region ?_
          refine o_move rfl rfl ?_
          refine o_move rfl rfl ?_
          refine o_idxS Try.underlying22 sz35 rfl rfl rfl (hR _ _ rfl rfl) (by omega) (by omega) (by rw [steps_length, hn]) (by decide) ?_
          refine o_loadRA agg35 sz35 rfl rfl (hR _ _ rfl rfl) (steps_at l q.i (by omega)) rfl (by decide) ?_
          refine o_alloc _ rfl zero35 rfl (fun b13 => ?_)
          refine o_storeW sz35 .z rfl rfl rfl rfl rfl rfl (allOne_spec rfl) ?_
          refine triL_nil ?_
          refine thenQ_normal ?_
          refine tri_join (ι := KS) (fun u => [(0, .slice A ln c), (1, .slice KA kn kc), (5, .pointer (some ⟨j.1, 0, none⟩)), (7, .slice (some ⟨b41, 0, none⟩) 4 4), (8, .slice (some ⟨b42, 0, none⟩) 4 4), (10, .bool true), (11, .int .i64 (u.d.cache.length : Int)), (12, .int .i64 (q.i : Int)), (13, .pointer (some ⟨b13, 0, none⟩))]) (fun u => (box b13 35 (stepV (l.getD q.i Stp.nil)) :: (poolC u.F u.pool :: row (.slice (some ⟨b42, 0, none⟩) 4 4) 30 1 4 (sinceV u.L) :: row (.slice (some ⟨b41, 0, none⟩) 4 4) 32 1 4 (refsV u.kr) :: ((dkC j.1 (some ⟨j.2, 0, none⟩) 4 u.a.1 u.a.2 u.d) ++ rowsC u.L)))) (fun u => u.i = q.i ∧ u.d.cache.length ≤ q.i + 1 ∧ Kp u.d u.kr u.L u.pool) ?_ (fun u hj => ?_)
          · skip
            refine tri_seq ?_
            refine tri_slots [(13, _), (0, _), (1, _), (5, _), (7, _), (8, _), (10, _), (11, _), (12, _)] (.cons rfl (.cons rfl (.cons rfl (.cons rfl (.cons rfl (.cons rfl (.cons rfl (.cons rfl (.cons rfl (.nil _)))))))))) ?_
            refine tri_region ?_
            refine o_field fo35_0 rfl rfl ?_
            refine o_load agg3 (by first | exact Nth.z | exact .s .z | exact .s (.s .z) | exact .s (.s (.s .z)) | exact .s (.s (.s (.s .z))) | exact .s (.s (.s (.s (.s .z)))) | exact .s (.s (.s (.s (.s (.s .z))))) | exact .s (.s (.s (.s (.s (.s (.s .z))))))) rfl rfl rfl ?_
            refine o_eqlI rfl rfl rfl ?_
            refine triL_nil ?_
            refine thenQ_normal ?_
            refine tri_if rfl (fun h4 => ?_) (fun h4 => ?_)
            · skip
              refine tri_seq ?_
              refine tri_region ?_
              refine o_move rfl rfl ?_
              refine o_field fo35_1 rfl rfl ?_
              refine o_load agg3 (by first | exact Nth.z | exact .s .z | exact .s (.s .z) | exact .s (.s (.s .z)) | exact .s (.s (.s (.s .z))) | exact .s (.s (.s (.s (.s .z)))) | exact .s (.s (.s (.s (.s (.s .z))))) | exact .s (.s (.s (.s (.s (.s (.s .z))))))) rfl rfl rfl ?_
              refine o_field fo35_2 rfl rfl ?_
              refine o_load agg32 (by first | exact Nth.z | exact .s .z | exact .s (.s .z) | exact .s (.s (.s .z)) | exact .s (.s (.s (.s .z))) | exact .s (.s (.s (.s (.s .z)))) | exact .s (.s (.s (.s (.s (.s .z))))) | exact .s (.s (.s (.s (.s (.s (.s .z))))))) rfl rfl rfl ?_
              refine o_callM [box b13 35 (stepV (l.getD q.i Stp.nil)), poolC q.F q.pool, row (.slice (some ⟨b42, 0, none⟩) 4 4) 30 1 4 (sinceV q.L), row (.slice (some ⟨b41, 0, none⟩) 4 4) 32 1 4 (refsV q.kr)] (dkC j.1 (some ⟨j.2, 0, none⟩) 4 q.a.1 q.a.2 q.d) (rowsC q.L) (dkF j.1 (some ⟨j.2, 0, none⟩) q.a.1) rfl rfl rfl rfl Try.call13 dk_lend dk_lend' (fun w1 h1 h2 => writeK j.1 (some ⟨j.2, 0, none⟩) 4 q.a.1 q.a.2 q.d (l.getD q.i Stp.nil).at_ (l.getD q.i Stp.nil).A (l.getD q.i Stp.nil).n (l.getD q.i Stp.nil).c (l.getD q.i Stp.nil).b w1 h2.cx hi.2.2.good (by omega) (Stp.call (L := [box b13 35 (stepV (l.getD q.i Stp.nil)), poolC q.F q.pool, row (.slice (some ⟨b42, 0, none⟩) 4 4) 30 1 4 (sinceV q.L), row (.slice (some ⟨b41, 0, none⟩) 4 4) 32 1 4 (refsV q.kr)]) (D := (dkC j.1 (some ⟨j.2, 0, none⟩) 4 q.a.1 q.a.2 q.d)) (R := rowsC q.L) (hst _ (getD_memS l q.i (by omega))) h1 dk_lend').1 (hst _ (getD_memS l q.i (by omega))).2.1) (fun v _ => ?_)
              refine o_assign rfl rfl ?_
              refine triL_nil ?_
              refine thenQ_normal ?_
              refine tri_seq ?_
              refine tri_slots [(14, _), (13, _), (0, _), (1, _), (5, _), (7, _), (8, _), (10, _), (11, _), (12, _)] (.cons rfl (.cons rfl (.cons rfl (.cons rfl (.cons rfl (.cons rfl (.cons rfl (.cons rfl (.cons rfl (.cons rfl (.nil _))))))))))) ?_
              refine tri_region ?_
              refine o_move rfl rfl ?_
              refine o_eqlI rfl rfl rfl ?_
              refine triL_nil ?_
              refine thenQ_normal ?_
              refine tri_if rfl (fun h5 => ?_) (fun h5 => ?_)
              · skip
                obtain ⟨k, hk0, hk1, hk2, hk3⟩ := calm_write hi.2.2.calm (l.getD q.i Stp.nil).at_ (l.getD q.i Stp.nil).b h5
                have hk4 : k < 4 := by rw [← hi.2.2.len]; exact hk1
                have hxn : (l.getD q.i Stp.nil).n = 512 := by rw [← (hst _ (getD_memS l q.i (by omega))).2.1]; exact hk2
                have hsl := since_len (fun z hz => (hi.2.2.good.2.1 z hz).2) k
                have hsk := kp_none hi.2.2 hk4
                have hsk2 : (sinceC q.d.cache k).length = (q.L.getD k Rw.nil).s.length := hsk.symm
                rw [hk3]
                refine tri_seq ?_
                refine tri_mixN ([box b13 35 (stepV (l.getD q.i Stp.nil)), poolC q.F q.pool, row (.slice (some ⟨b42, 0, none⟩) 4 4) 30 1 4 (sinceV q.L)]) [(0, 2), (1, 2), (2, 1), (3, 2), (4, 2), (5, 1), (6, 1), (7, 1), (8, 2), (9, 1), (10, 0), (11, 0), (12, 0), (13, 1), (14, 0)] [14] (by kernel_rfl) (by kernel_rfl) (fun _ h => h.sublist (List.Sublist.cons_cons _ (List.Sublist.cons_cons _ (List.Sublist.cons_cons _ (List.nil_sublist _))))) ?_
                refine mixN_free rfl ?_
                refine o_move rfl rfl ?_
                refine triL_nil ⟨rfl, ?_⟩
                refine mixN_free rfl ?_
                refine o_field fo35_1 rfl rfl ?_
                refine triL_nil ⟨rfl, ?_⟩
                refine mixN_fix rfl ?_
                refine o_load agg3 (by first | exact Nth.z | exact .s .z | exact .s (.s .z) | exact .s (.s (.s .z)) | exact .s (.s (.s (.s .z))) | exact .s (.s (.s (.s (.s .z)))) | exact .s (.s (.s (.s (.s (.s .z))))) | exact .s (.s (.s (.s (.s (.s (.s .z))))))) rfl rfl rfl ?_
                rw [hk0]
                refine triL_nil ⟨rfl, ?_⟩
                refine mixN_free rfl ?_
                refine o_move rfl rfl ?_
                refine triL_nil ⟨rfl, ?_⟩
                refine mixN_free rfl ?_
                refine o_field fo35_1 rfl rfl ?_
                refine triL_nil ⟨rfl, ?_⟩
                refine mixN_fix rfl ?_
                refine o_load agg3 (by first | exact Nth.z | exact .s .z | exact .s (.s .z) | exact .s (.s (.s .z)) | exact .s (.s (.s (.s .z))) | exact .s (.s (.s (.s (.s .z)))) | exact .s (.s (.s (.s (.s (.s .z))))) | exact .s (.s (.s (.s (.s (.s (.s .z))))))) rfl rfl rfl ?_
                rw [hk0]
                refine triL_nil ⟨rfl, ?_⟩
                refine mixN_fix rfl ?_
                refine o_idxS Try.underlying31 sz30 rfl rfl rfl (RdS.row (i := 2) (.s (.s .z))) (by omega) (by omega) (by rw [sinceV_length, hi.2.2.rows]) (by decide) ?_
                refine triL_nil ⟨rfl, ?_⟩
                refine mixN_fix rfl ?_
                refine o_loadR agg30 rfl rfl (RdS.row (i := 2) (.s (.s .z))) (sinceV_get q.L k (by rw [hi.2.2.rows]; omega)) ?_
                refine triL_nil ⟨rfl, ?_⟩
                refine mixN_free rfl ?_
                refine o_field fo35_2 rfl rfl ?_
                refine triL_nil ⟨rfl, ?_⟩
                refine mixN_fix rfl ?_
                refine o_load agg32 (by first | exact Nth.z | exact .s .z | exact .s (.s .z) | exact .s (.s (.s .z)) | exact .s (.s (.s (.s .z))) | exact .s (.s (.s (.s (.s .z)))) | exact .s (.s (.s (.s (.s (.s .z))))) | exact .s (.s (.s (.s (.s (.s (.s .z))))))) rfl rfl rfl ?_
                refine triL_nil ⟨rfl, ?_⟩
                refine mixN_keep rfl rfl ?_
                refine o_callF (first := []) (cap := []) id rfl rfl rfl Try.call14 (fun w1 h1 => copyR (l.getD q.i Stp.nil).A (l.getD q.i Stp.nil).n (l.getD q.i Stp.nil).c (l.getD q.i Stp.nil).b w1 (h1.rd (RdS.arg (hst _ (getD_memS l q.i (by omega))).1.rd rfl)) (hst _ (getD_memS l q.i (by omega))).2.1 (by omega)) (fun A82 c82 => ?_)
                rw [hxn]
                refine triL_nil ⟨rfl, fun _ h => h.tail.sublist (List.Sublist.cons_cons _ (List.Sublist.cons_cons _ (List.Sublist.cons_cons _ (List.nil_sublist _)))), ?_⟩
                refine mixN_keep rfl rfl ?_
                refine o_lit1 (vs := refV (A82, c82)) Try.underlying30 zs32 rfl rfl rfl rfl rfl (by decide) (by decide) (fun b83 => ?_)
                refine triL_nil ⟨rfl, fun _ h => h.tail.tail.sublist (List.Sublist.cons_cons _ (List.Sublist.cons_cons _ (List.Sublist.cons_cons _ (List.nil_sublist _)))), ?_⟩
                refine mixN_keep rfl rfl ?_
                refine o_append (news := refV (A82, c82)) Try.underlying30 zsb32 rfl (by decide) (.s (.s (.s (.s (.s (.s (.s (.s (.s (nth_rows q.L k (by rw [hi.2.2.rows]; exact hk4))))))))))) rfl rfl rfl (RdS.row .z) rfl (allOne_spec rfl) (by unfold maxLen; omega) (by omega) (fun A84 c84 => ?_)
                refine triL_nil ⟨rfl, fun _ h => h.tail.tail.sublist (List.Sublist.cons_cons _ (List.Sublist.cons_cons _ (List.Sublist.cons_cons _ (List.nil_sublist _)))), ?_⟩
                refine mixN_fix rfl ?_
                refine o_idxS Try.underlying31 sz30 rfl rfl rfl (RdS.row (i := 2) (.s (.s .z))) (by omega) (by omega) (by rw [sinceV_length, hi.2.2.rows]) (by decide) ?_
                refine triL_nil ⟨rfl, ?_⟩
                refine mixN_op rfl rfl ?_
                refine o_storeR sz30 (.s (.s (.s (.s .z)))) rfl rfl rfl rfl (by rw [sinceV_length, hi.2.2.rows]; omega) rfl ?_
                refine triL_nil ⟨rfl, ?_⟩
                refine mixN_nil ?_
                refine thenQ_normal ?_
                refine tri_slots [(13, _), (0, _), (1, _), (5, _), (7, _), (8, _), (10, _), (11, _), (12, _)] (.cons rfl (.cons rfl (.cons rfl (.cons rfl (.cons rfl (.cons rfl (.cons rfl (.cons rfl (.cons rfl (.nil _)))))))))) ?_
                refine tri_region ?_
                refine o_move rfl rfl ?_
                refine o_addN rfl rfl rfl (by omega) ?_
                refine o_assign rfl rfl ?_
                refine triL_nil ?_
                refine thenQ_normal ?_
                exact ⟨⟨q.i, { q.d with w := inc q.d.w, cache := q.d.cache ++ [(k, (l.getD q.i Stp.nil).b)] }, v, q.kr, q.L.set k ⟨A84, c84, (q.L.getD k Rw.nil).s ++ [(A82, c82)]⟩, blk A82 ++ q.F, (A82, c82, (l.getD q.i Stp.nil).b) :: q.pool⟩, (.cons rfl (.cons rfl (.cons rfl (.cons rfl (.cons rfl (.cons rfl (.cons (congrArg (fun z : Int => some (Value.int .i64 z)) (by simp)) (.cons rfl (.cons rfl (.nil _)))))))))), (fun w1 hw => by
  have e1 := set_rows q.L k ⟨A84, c84, (q.L.getD k Rw.nil).s ++ [(A82, c82)]⟩ (by rw [hi.2.2.rows]; exact hk4)
  have e2 := sinceV_set q.L k ⟨A84, c84, (q.L.getD k Rw.nil).s ++ [(A82, c82)]⟩
  rw [chunk_snoc] at e1
  rw [val_snoc] at e2
  have e3 := Sat.pool hw.tail (i := 1) (.s .z)
  show Sat _ (box b13 35 _ :: poolC _ _ :: row (.slice (some ⟨b42, 0, none⟩) 4 4) 30 1 4 (sinceV (q.L.set k ⟨A84, c84, (q.L.getD k Rw.nil).s ++ [(A82, c82)]⟩)) :: row (.slice (some ⟨b41, 0, none⟩) 4 4) 32 1 4 (refsV q.kr) :: ((dkC j.1 (some ⟨j.2, 0, none⟩) 4 v.1 v.2 _) ++ rowsC (q.L.set k ⟨A84, c84, (q.L.getD k Rw.nil).s ++ [(A82, c82)]⟩))) w1
  rw [← e1, ← e2]
  exact e3), ⟨rfl, by simp only [List.length_append, List.length_singleton]; omega, kp_write hi.2.2 hk4 hk2 _⟩⟩
              · skip
                rw [calm_nowrite hi.2.2.calm _ _ h5]
                refine tri_skip ?_
                refine thenQ_normal ?_
                exact ⟨⟨q.i, q.d, v, q.kr, q.L, q.F, q.pool⟩, (.cons rfl (.cons rfl (.cons rfl (.cons rfl (.cons rfl (.cons rfl (.cons rfl (.cons rfl (.cons rfl (.nil _)))))))))), fun _ h => h, ⟨rfl, by simp only; omega, hi.2.2⟩⟩
            · skip
              refine tri_skip ?_
              refine thenQ_normal ?_
              exact ⟨⟨q.i, q.d, q.a, q.kr, q.L, q.F, q.pool⟩, (.cons rfl (.cons rfl (.cons rfl (.cons rfl (.cons rfl (.cons rfl (.cons rfl (.cons rfl (.cons rfl (.nil _)))))))))), fun _ h => h, ⟨rfl, by simp only; omega, hi.2.2⟩⟩
          have hu := hj
          refine tri_seq ?_
          refine tri_region ?_
          refine o_field fo35_0 rfl rfl ?_
          refine o_load agg3 (by first | exact Nth.z | exact .s .z | exact .s (.s .z) | exact .s (.s (.s .z)) | exact .s (.s (.s (.s .z))) | exact .s (.s (.s (.s (.s .z)))) | exact .s (.s (.s (.s (.s (.s .z))))) | exact .s (.s (.s (.s (.s (.s (.s .z))))))) rfl rfl rfl ?_
          refine o_eqlI rfl rfl rfl ?_
          refine triL_nil ?_
          refine thenQ_normal ?_
          refine tri_if rfl (fun h6 => ?_) (fun h6 => ?_)
          · skip
            refine tri_seq ?_
            refine tri_slots [(0, _), (1, _), (5, _), (7, _), (8, _), (10, _), (12, _)] (.cons rfl (.cons rfl (.cons rfl (.cons rfl (.cons rfl (.cons rfl (.cons rfl (.nil _)))))))) ?_
            refine tri_region ?_
            refine o_move rfl rfl ?_
            refine o_callM [box b13 35 (stepV (l.getD q.i Stp.nil)), poolC u.F u.pool, row (.slice (some ⟨b42, 0, none⟩) 4 4) 30 1 4 (sinceV u.L), row (.slice (some ⟨b41, 0, none⟩) 4 4) 32 1 4 (refsV u.kr)] (dkC j.1 (some ⟨j.2, 0, none⟩) 4 u.a.1 u.a.2 u.d) (rowsC u.L) (dkF j.1 (some ⟨j.2, 0, none⟩) u.a.1) rfl rfl rfl rfl Try.call15 dk_lend dk_lend' (fun w1 h1 h2 => syncK j.1 (some ⟨j.2, 0, none⟩) 4 u.a.1 u.a.2 u.d w1 h2.cx hu.2.2.good (by omega)) (fun _ _ => ?_)
            rw [calm_sync hu.2.2.calm hu.2.2.ne]
            dsimp only
            refine o_assign rfl rfl ?_
            refine triL_nil ?_
            refine thenQ_normal ?_
            refine tri_seq ?_
            refine tri_seq ?_
            refine tri_region ?_
            refine o_assign rfl rfl ?_
            refine triL_nil ?_
            refine thenQ_normal ?_
            refine tri_block ?_
            refine tri_loop (ι := SS) (F := fun p => [(0, .slice A ln c), (1, .slice KA kn kc), (5, .pointer (some ⟨j.1, 0, none⟩)), (7, .slice (some ⟨b41, 0, none⟩) 4 4), (8, .slice (some ⟨b42, 0, none⟩) 4 4), (10, .bool true), (12, .int .i64 (q.i : Int)), (15, .int .i64 0), (16, .int .i64 (p.k : Int))]) (HH := fun p => (box b13 35 (stepV (l.getD q.i Stp.nil)) :: poolC u.F u.pool :: row (.slice (some ⟨b42, 0, none⟩) 4 4) 30 1 4 (sinceV p.L) :: row (.slice (some ⟨b41, 0, none⟩) 4 4) 32 1 4 (refsV p.kr) :: ((dkC j.1 (some ⟨j.2, 0, none⟩) 4 u.a.1 u.a.2 { u.d with s := inc u.d.s, kept := lay u.d.kept u.d.cache, cache := [] }) ++ rowsC p.L))) (Pu := fun p => KpS u.d p.k p.kr p.L u.pool) (μ := fun p => 4 - p.k) (⟨0, u.kr, u.L⟩) (.cons rfl (.cons rfl (.cons rfl (.cons rfl (.cons rfl (.cons rfl (.cons rfl (.cons rfl (.cons rfl (.nil _)))))))))) (fun _ h => h) (kps_start hu.2.2) (fun p hp => ?_)
            refine tri_seq ?_
            refine tri_seq ?_
            refine tri_region ?_
            refine o_move rfl rfl ?_
            refine o_lss rfl rfl rfl ?_
            refine o_move rfl rfl ?_
            refine' triL_and [_, _] [(0, _), (1, _), (5, _), (7, _), (8, _), (10, _), (12, _), (15, _), (16, _)] (dj := 95) (dr := 97) rfl rfl (fun g3 => ?_) ⟨_, rfl, rfl, rfl, (.cons rfl (.cons rfl (.cons rfl (.cons rfl (.cons rfl (.cons rfl (.cons rfl (.cons rfl (.cons rfl (.nil _))))))))))⟩ rfl ?_
            rotate_left
            · skip
              skip
              refine o_move rfl rfl ?_
              refine o_eqlI rfl rfl rfl ?_
              exact triL_nil (Piece.mk rfl rfl (.cons rfl (.cons rfl (.cons rfl (.cons rfl (.cons rfl (.cons rfl (.cons rfl (.cons rfl (.cons rfl (.nil _)))))))))) (fun _ h => h))
            refine triL_nil ?_
            refine thenQ_normal ?_
            refine tri_cond rfl (fun h7 => ?_) (fun h7 => ?_)
            · skip
              have h7 : p.k < 4 := by simp at h7; omega
              have hps := hp.since p.k (Nat.le_refl _) h7
              have hpl : (p.L.getD p.k Rw.nil).s.length ≤ 100000 := by rw [hps.1]; exact Nat.le_trans (since_len (fun z hz => (hu.2.2.good.2.1 z hz).2) p.k).2 (by omega)
              refine tri_skip ?_
              refine thenQ_normal ?_
              refine tri_seq ?_
              refine tri_block ?_
              refine tri_seq ?_
              refine tri_seq ?_
              refine tri_region ?_
              refine o_move rfl rfl ?_
              refine o_move rfl rfl ?_
              refine o_idxS Try.underlying31 sz30 rfl rfl rfl (RdS.row (i := 2) (.s (.s .z))) (by omega) (by omega) (by rw [sinceV_length, hp.rows]) (by decide) ?_
              refine o_loadR agg30 rfl rfl (RdS.row (i := 2) (.s (.s .z))) (sinceV_get p.L p.k (by rw [hp.rows]; omega)) ?_
              refine o_lenS Try.underlying30 rfl rfl ?_
              refine o_gtr rfl rfl rfl ?_
              refine triL_nil ?_
              refine thenQ_normal ?_
              refine tri_if rfl (fun h8 => ?_) (fun h8 => ?_)
              · skip
                refine tri_slots [(0, _), (1, _), (5, _), (7, _), (8, _), (10, _), (12, _), (15, _), (16, _)] (.cons rfl (.cons rfl (.cons rfl (.cons rfl (.cons rfl (.cons rfl (.cons rfl (.cons rfl (.cons rfl (.nil _)))))))))) ?_
                refine tri_mixN (_) [(0, 2), (1, 2), (2, 2), (3, 2), (4, 1), (5, 1), (6, 2), (7, 2), (8, 1), (9, 1), (10, 2), (11, 2), (12, 1), (13, 1), (14, 1), (15, 0)] [15] (by kernel_rfl) (by kernel_rfl) (fun _ h => h) ?_
                refine mixN_free rfl ?_
                refine o_move rfl rfl ?_
                refine triL_nil ⟨rfl, ?_⟩
                refine mixN_free rfl ?_
                refine o_move rfl rfl ?_
                refine triL_nil ⟨rfl, ?_⟩
                refine mixN_free rfl ?_
                refine o_move rfl rfl ?_
                refine triL_nil ⟨rfl, ?_⟩
                refine mixN_free rfl ?_
                refine o_move rfl rfl ?_
                refine triL_nil ⟨rfl, ?_⟩
                refine mixN_fix rfl ?_
                refine o_idxS Try.underlying31 sz30 rfl rfl rfl (RdS.row (i := 2) (.s (.s .z))) (by omega) (by omega) (by rw [sinceV_length, hp.rows]) (by decide) ?_
                refine triL_nil ⟨rfl, ?_⟩
                refine mixN_fix rfl ?_
                refine o_loadR agg30 rfl rfl (RdS.row (i := 2) (.s (.s .z))) (sinceV_get p.L p.k (by rw [hp.rows]; omega)) ?_
                refine triL_nil ⟨rfl, ?_⟩
                refine mixN_free rfl ?_
                refine o_move rfl rfl ?_
                refine triL_nil ⟨rfl, ?_⟩
                refine mixN_free rfl ?_
                refine o_move rfl rfl ?_
                refine triL_nil ⟨rfl, ?_⟩
                refine mixN_fix rfl ?_
                refine o_idxS Try.underlying31 sz30 rfl rfl rfl (RdS.row (i := 2) (.s (.s .z))) (by omega) (by omega) (by rw [sinceV_length, hp.rows]) (by decide) ?_
                refine triL_nil ⟨rfl, ?_⟩
                refine mixN_fix rfl ?_
                refine o_loadR agg30 rfl rfl (RdS.row (i := 2) (.s (.s .z))) (sinceV_get p.L p.k (by rw [hp.rows]; omega)) ?_
                refine triL_nil ⟨rfl, ?_⟩
                refine mixN_free rfl ?_
                refine o_lenS Try.underlying30 rfl rfl ?_
                refine triL_nil ⟨rfl, ?_⟩
                refine mixN_free rfl ?_
                refine o_subN rfl rfl rfl (by omega) ?_
                refine triL_nil ⟨rfl, ?_⟩
                refine mixN_fix rfl ?_
                refine o_idxS Try.underlying30 sz32 rfl rfl rfl (RdS.row (i := _) (.s (.s (.s (.s (.s (.s (.s (nth_rows p.L p.k (by rw [hp.rows]; omega)))))))))) (by omega) (by omega) (refs_length _) (by decide) ?_
                refine triL_nil ⟨rfl, ?_⟩
                refine mixN_fix rfl ?_
                refine o_loadR agg32 rfl rfl (RdS.row (i := _) (.s (.s (.s (.s (.s (.s (.s (nth_rows p.L p.k (by rw [hp.rows]; omega)))))))))) (by rw [show ((((p.L.getD p.k Rw.nil).s.length : Nat) : Int) - 1).toNat = (p.L.getD p.k Rw.nil).s.length - 1 by omega]; exact refs_get _ _ (by omega)) ?_
                refine triL_nil ⟨rfl, ?_⟩
                refine mixN_fix rfl ?_
                refine o_idxS Try.underlying30 sz32 rfl rfl rfl (RdS.row (i := 3) (.s (.s (.s .z)))) (by omega) (by omega) (by rw [refs_length, hp.klen]) (by decide) ?_
                refine triL_nil ⟨rfl, ?_⟩
                refine mixN_op rfl rfl ?_
                refine o_storeR sz32 (.s (.s (.s .z))) rfl rfl rfl rfl (by rw [refs_length, hp.klen]; omega) rfl ?_
                refine triL_nil ⟨rfl, ?_⟩
                refine mixN_nil ?_
                refine thenQ_normal ?_
                refine tri_slots [(0, _), (1, _), (5, _), (7, _), (8, _), (10, _), (12, _), (15, _), (16, _)] (.cons rfl (.cons rfl (.cons rfl (.cons rfl (.cons rfl (.cons rfl (.cons rfl (.cons rfl (.cons rfl (.nil _)))))))))) ?_
                refine tri_region ?_
                refine o_move rfl rfl ?_
                refine o_move rfl rfl ?_
                refine o_idxS Try.underlying31 sz30 rfl rfl rfl (RdS.row (i := 2) (.s (.s .z))) (by omega) (by omega) (by rw [sinceV_length, hp.rows]) (by decide) ?_
                refine o_storeR sz30 (.s (.s .z)) rfl rfl rfl rfl (by rw [sinceV_length, hp.rows]; omega) rfl ?_
                refine triL_nil ?_
                refine blockQ_normal ?_
                refine thenQ_normal ?_
                refine tri_region ?_
                refine o_move rfl rfl ?_
                refine o_addN rfl rfl rfl (by omega) ?_
                refine o_assign rfl rfl ?_
                refine triL_nil ?_
                refine thenQ_normal ?_
                have hst1 := kps_step hp h7
                rw [if_pos (by omega)] at hst1
                exact ⟨⟨p.k + 1, p.kr.set p.k ((p.L.getD p.k Rw.nil).s.getD ((p.L.getD p.k Rw.nil).s.length - 1) pd), p.L.set p.k Rw.nil⟩, (.cons rfl (.cons rfl (.cons rfl (.cons rfl (.cons rfl (.cons rfl (.cons rfl (.cons rfl (.cons rfl (.nil _)))))))))), (fun w1 hw => by
  have e1 := set_rows p.L p.k Rw.nil (by rw [hp.rows]; omega)
  have e2 := sinceV_set p.L p.k Rw.nil
  have e3 := Sat.toNil hw (.s (.s (.s (.s (.s (.s (.s (nth_rows p.L p.k (by rw [hp.rows]; omega)))))))))
  show Sat _ (box b13 35 (stepV (l.getD q.i Stp.nil)) :: poolC u.F u.pool :: row (.slice (some ⟨b42, 0, none⟩) 4 4) 30 1 4 (sinceV (p.L.set p.k Rw.nil)) :: row (.slice (some ⟨b41, 0, none⟩) 4 4) 32 1 4 (_) :: ((dkC j.1 (some ⟨j.2, 0, none⟩) 4 u.a.1 u.a.2 _) ++ rowsC (p.L.set p.k Rw.nil))) w1
  rw [← e1, ← e2, ← refs_set p.kr p.k (by rw [hp.klen]; exact h7)]
  exact e3), hst1, (by simp only; omega)⟩
              · skip
                refine tri_skip ?_
                refine thenQ_normal ?_
                refine tri_slots [(0, _), (1, _), (5, _), (7, _), (8, _), (10, _), (12, _), (15, _), (16, _)] (.cons rfl (.cons rfl (.cons rfl (.cons rfl (.cons rfl (.cons rfl (.cons rfl (.cons rfl (.cons rfl (.nil _)))))))))) ?_
                refine tri_region ?_
                refine o_move rfl rfl ?_
                refine o_move rfl rfl ?_
                refine o_idxS Try.underlying31 sz30 rfl rfl rfl (RdS.row (i := 2) (.s (.s .z))) (by omega) (by omega) (by rw [sinceV_length, hp.rows]) (by decide) ?_
                refine o_storeR sz30 (.s (.s .z)) rfl rfl rfl rfl (by rw [sinceV_length, hp.rows]; omega) rfl ?_
                refine triL_nil ?_
                refine blockQ_normal ?_
                refine thenQ_normal ?_
                refine tri_region ?_
                refine o_move rfl rfl ?_
                refine o_addN rfl rfl rfl (by omega) ?_
                refine o_assign rfl rfl ?_
                refine triL_nil ?_
                refine thenQ_normal ?_
                have hst1 := kps_step hp h7
                rw [if_neg (by omega)] at hst1
                exact ⟨⟨p.k + 1, p.kr, p.L.set p.k Rw.nil⟩, (.cons rfl (.cons rfl (.cons rfl (.cons rfl (.cons rfl (.cons rfl (.cons rfl (.cons rfl (.cons rfl (.nil _)))))))))), (fun w1 hw => by
  have e1 := set_rows p.L p.k Rw.nil (by rw [hp.rows]; omega)
  have e2 := sinceV_set p.L p.k Rw.nil
  have e3 := Sat.toNil hw (.s (.s (.s (.s (.s (.s (.s (nth_rows p.L p.k (by rw [hp.rows]; omega)))))))))
  show Sat _ (box b13 35 (stepV (l.getD q.i Stp.nil)) :: poolC u.F u.pool :: row (.slice (some ⟨b42, 0, none⟩) 4 4) 30 1 4 (sinceV (p.L.set p.k Rw.nil)) :: row (.slice (some ⟨b41, 0, none⟩) 4 4) 32 1 4 (_) :: ((dkC j.1 (some ⟨j.2, 0, none⟩) 4 u.a.1 u.a.2 _) ++ rowsC (p.L.set p.k Rw.nil))) w1
  rw [← e1, ← e2]
  exact e3), hst1, (by simp only; omega)⟩
            · skip
              have h7 : p.k = 4 := by have := hp.le; simp at h7; omega
              refine tri_exit ?_
              refine thenQ_exit ?_
              refine thenQ_exit ?_
              refine blockQ_here ?_
              refine thenQ_normal ?_
              refine tri_seq ?_
              refine tri_seq ?_
              refine tri_region ?_
              refine o_move rfl rfl ?_
              refine o_neqI rfl rfl rfl ?_
              refine triL_nil ?_
              refine thenQ_normal ?_
              refine tri_cond_false rfl ?_
              refine tri_skip ?_
              refine thenQ_normal ?_
              refine tri_slots [(0, _), (1, _), (5, _), (7, _), (8, _), (10, _), (12, _)] (.cons rfl (.cons rfl (.cons rfl (.cons rfl (.cons rfl (.cons rfl (.cons rfl (.nil _)))))))) ?_
              refine tri_region ?_
              refine o_assign rfl rfl ?_
              refine triL_nil ?_
              refine blockQ_normal ?_
              refine thenQ_normal ?_
              refine tri_region ?_
              refine o_move rfl rfl ?_
              refine o_addN rfl rfl rfl (by omega) ?_
              refine o_assign rfl rfl ?_
              refine triL_nil ?_
              refine thenQ_normal ?_
              exact ⟨⟨q.i + 1, { u.d with s := inc u.d.s, kept := lay u.d.kept u.d.cache, cache := [] }, u.a, p.kr, p.L, u.F, u.pool⟩, (.cons rfl (.cons rfl (.cons rfl (.cons rfl (.cons rfl (.cons rfl (.cons rfl (.cons rfl (.nil _))))))))), (fun w1 hw => hw.tail), ⟨by simp only; omega, Nat.zero_le _, kps_end hu.2.2 (by have := hp; rw [h7] at this; exact this) _⟩, (by simp only; omega)⟩
          · skip
            refine tri_skip ?_
            refine blockQ_normal ?_
            refine thenQ_normal ?_
            refine tri_slots [(0, _), (1, _), (5, _), (7, _), (8, _), (10, _), (11, _), (12, _)] (.cons rfl (.cons rfl (.cons rfl (.cons rfl (.cons rfl (.cons rfl (.cons rfl (.cons rfl (.nil _))))))))) ?_
            refine tri_region ?_
            refine o_move rfl rfl ?_
            refine o_addN rfl rfl rfl (by omega) ?_
            refine o_assign rfl rfl ?_
            refine triL_nil ?_
            refine thenQ_normal ?_
            exact ⟨⟨q.i + 1, u.d, u.a, u.kr, u.L, u.F, u.pool⟩, (.cons rfl (.cons rfl (.cons rfl (.cons rfl (.cons rfl (.cons rfl (.cons rfl (.cons rfl (.nil _))))))))), (fun w1 hw => hw.tail), ⟨by simp only; omega, by simp only; omega, hu.2.2⟩, (by simp only; omega)⟩
        · skip
          refine tri_exit ?_
          refine thenQ_exit ?_
          refine thenQ_exit ?_
          refine blockQ_here ?_
          refine thenQ_normal ?_
          refine tri_seq ?_
          refine tri_seq ?_
          refine tri_slots [(1, _), (5, _), (7, _), (8, _), (10, _), (11, _)] (.cons rfl (.cons rfl (.cons rfl (.cons rfl (.cons rfl (.cons rfl (.nil _))))))) ?_
          refine tri_region ?_
          refine o_move rfl rfl ?_
          refine o_callP (first := []) (cap := []) rfl rfl rfl Try.call16 (fun w1 h1 => pendingK j.1 (some ⟨j.2, 0, none⟩) 4 q.a.1 q.a.2 q.d w1 (h1.rd (RdS.box (i := 3) (.s (.s (.s .z)))))) ?_
          refine o_move rfl rfl ?_
          refine o_neqIF rfl rfl rfl rfl ?_
          refine triL_nil ?_
          refine thenQ_normal ?_
          refine tri_cond_false rfl ?_
          refine tri_skip ?_
          refine thenQ_normal ?_
          refine tri_seq ?_
          refine tri_seq ?_
          refine tri_slots [(1, _), (5, _), (7, _), (8, _), (10, _), (11, _)] (.cons rfl (.cons rfl (.cons rfl (.cons rfl (.cons rfl (.cons rfl (.nil _))))))) ?_
          refine tri_region ?_
          refine o_assign rfl rfl ?_
          refine triL_nil ?_
          refine thenQ_normal ?_
          refine tri_block ?_
          refine tri_loop (ι := Nat) (F := fun p => [(1, .slice KA kn kc), (5, .pointer (some ⟨j.1, 0, none⟩)), (7, .slice (some ⟨b41, 0, none⟩) 4 4), (8, .slice (some ⟨b42, 0, none⟩) 4 4), (10, .bool (allK keep p)), (11, .int .i64 (q.d.cache.length : Int)), (17, .int .i64 (p : Int))]) (HH := fun p => (poolC q.F q.pool :: row (.slice (some ⟨b42, 0, none⟩) 4 4) 30 1 4 (sinceV q.L) :: row (.slice (some ⟨b41, 0, none⟩) 4 4) 32 1 4 (refsV q.kr) :: ((dkC j.1 (some ⟨j.2, 0, none⟩) 4 q.a.1 q.a.2 q.d) ++ rowsC q.L))) (Pu := fun p => p ≤ q.d.cache.length) (μ := fun p => q.d.cache.length - p) (0) (.cons rfl (.cons rfl (.cons rfl (.cons rfl (.cons rfl (.cons rfl (.cons rfl (.nil _)))))))) (fun _ h => h) (Nat.zero_le _) (fun p hp => ?_)
          refine tri_seq ?_
          refine tri_seq ?_
          refine tri_region ?_
          refine o_move rfl rfl ?_
          refine o_move rfl rfl ?_
          refine o_lss rfl rfl rfl ?_
          refine triL_nil ?_
          refine thenQ_normal ?_
          refine tri_if rfl (fun h11 => ?_) (fun h11 => ?_)
          · skip
            refine tri_skip ?_
            refine thenQ_normal ?_
            refine tri_seq ?_
            refine tri_block ?_
            refine tri_region ?_
            refine o_move rfl rfl ?_
            refine o_move rfl rfl ?_
            refine' triL_and [_, _, _, _] [(1, _), (5, _), (7, _), (8, _), (10, _), (11, _), (17, _)] (dj := 137) (dr := 141) rfl rfl (fun g4 => ?_) ⟨_, rfl, rfl, rfl, (.cons rfl (.cons rfl (.cons rfl (.cons rfl (.cons rfl (.cons rfl (.cons rfl (.nil _))))))))⟩ rfl ?_
            rotate_left
            · skip
              skip
              refine o_move rfl rfl ?_
              refine o_move rfl rfl ?_
              refine o_lenS Try.underlying23 rfl rfl ?_
              refine o_lss rfl rfl rfl ?_
              exact triL_nil (Piece.mk rfl rfl (.cons rfl (.cons rfl (.cons rfl (.cons rfl (.cons rfl (.cons rfl (.cons rfl (.nil _)))))))) (fun _ h => h))
            refine o_move rfl rfl ?_
            refine' triL_and [_, _, _, _] [(1, _), (5, _), (7, _), (8, _), (10, _), (11, _), (17, _)] (dj := 143) (dr := 147) rfl rfl (fun ga => ?_) ⟨_, rfl, rfl, rfl, (.cons rfl (.cons rfl (.cons rfl (.cons rfl (.cons rfl (.cons rfl (.cons rfl (.nil _))))))))⟩ rfl ?_
            rotate_left
            · skip
              simp only [Bool.and_eq_true, decide_eq_true_eq] at ga
              refine o_move rfl rfl ?_
              refine o_move rfl rfl ?_
              refine o_idxS Try.underlying23 sz4 rfl rfl rfl (hKK _ _ rfl rfl) (by omega) (by omega) (by rw [boolsV_length]; omega) (by decide) ?_
              refine o_loadR agg4 rfl rfl (hKK _ _ rfl rfl) (boolsV_get keep p (by omega)) ?_
              exact triL_nil (Piece.mk rfl rfl (.cons rfl (.cons rfl (.cons rfl (.cons rfl (.cons rfl (.cons rfl (.cons rfl (.nil _)))))))) (fun _ h => h))
            refine o_assign rfl rfl ?_
            refine triL_nil ?_
            refine blockQ_normal ?_
            refine thenQ_normal ?_
            refine tri_region ?_
            refine o_move rfl rfl ?_
            refine o_addN rfl rfl rfl (by omega) ?_
            refine o_assign rfl rfl ?_
            refine triL_nil ?_
            refine thenQ_normal ?_
            exact ⟨p + 1, (.cons rfl (.cons rfl (.cons rfl (.cons rfl (.cons (congrArg (fun b => some (Value.bool b)) (by
  rw [allK_snoc, Bool.and_assoc]
  congr 1
  by_cases hpk : (p : Int) < kn
  · rw [decide_eq_true hpk, Bool.true_and]
  · rw [decide_eq_false hpk, Bool.false_and]
    simp [List.getD, List.getElem?_eq_none (show keep.length ≤ p by omega)])) (.cons rfl (.cons rfl (.nil _)))))))), fun _ h => h, by omega, by omega⟩
          · skip
            refine tri_exit ?_
            refine thenQ_exit ?_
            refine thenQ_exit ?_
            refine blockQ_here ?_
            refine thenQ_normal ?_
            refine tri_seq ?_
            refine tri_slots [(1, _), (5, _), (7, _), (8, _), (10, _)] (.cons rfl (.cons rfl (.cons rfl (.cons rfl (.cons rfl (.nil _)))))) ?_
            refine tri_region ?_
            refine o_move rfl rfl ?_
            refine o_move rfl rfl ?_
            refine o_callM [poolC q.F q.pool, row (.slice (some ⟨b42, 0, none⟩) 4 4) 30 1 4 (sinceV q.L), row (.slice (some ⟨b41, 0, none⟩) 4 4) 32 1 4 (refsV q.kr)] (dkC j.1 (some ⟨j.2, 0, none⟩) 4 q.a.1 q.a.2 q.d) (rowsC q.L) (dkF j.1 (some ⟨j.2, 0, none⟩) q.a.1) rfl rfl rfl rfl Try.call17 dk_lend dk_lend' (fun w1 h1 h2 => cutK j.1 (some ⟨j.2, 0, none⟩) 4 q.a.1 q.a.2 q.d KA kn kc keep w1 h2.cx hi.2.2.good (by omega) (Keeps.callM (L := [poolC q.F q.pool, row (.slice (some ⟨b42, 0, none⟩) 4 4) 30 1 4 (sinceV q.L), row (.slice (some ⟨b41, 0, none⟩) 4 4) 32 1 4 (refsV q.kr)]) (D := (dkC j.1 (some ⟨j.2, 0, none⟩) 4 q.a.1 q.a.2 q.d)) (R := rowsC q.L) (Keeps.of hkr) h1 dk_lend') hkn) (fun _ _ => ?_)
            refine triL_nil ?_
            refine thenQ_normal ?_
            refine tri_seq ?_
            refine tri_seq ?_
            refine tri_slots [(5, _), (7, _), (8, _), (10, _)] (.cons rfl (.cons rfl (.cons rfl (.cons rfl (.nil _))))) ?_
            refine tri_region ?_
            refine o_assign rfl rfl ?_
            refine triL_nil ?_
            refine thenQ_normal ?_
            refine tri_block ?_
            refine tri_loop (ι := ES) (F := fun p => [(5, .pointer (some ⟨j.1, 0, none⟩)), (7, .slice (some ⟨b41, 0, none⟩) 4 4), (8, .slice (some ⟨b42, 0, none⟩) 4 4), (10, .bool (allK keep q.d.cache.length)), (18, .int .i64 (p.k : Int))]) (HH := fun p => (poolC q.F q.pool :: row (.slice (some ⟨b42, 0, none⟩) 4 4) 30 1 4 (sinceV q.L) :: row (.slice (some ⟨b41, 0, none⟩) 4 4) 32 1 4 (refsV q.kr) :: ((dkC j.1 (some ⟨j.2, 0, none⟩) 4 q.a.1 q.a.2 p.e) ++ rowsC q.L))) (Pu := fun p => p.k ≤ 4 ∧ KpE q.d p.e keep) (μ := fun p => 4 - p.k) (⟨0, q.d.cutI keep⟩) (.cons rfl (.cons rfl (.cons rfl (.cons (congrArg (fun n => some (Value.bool (allK keep n))) (by omega)) (.cons rfl (.nil _)))))) (fun _ h => h) (⟨Nat.zero_le _, kpe_start hi.2.2 keep⟩) (fun p hp => ?_)
            refine tri_seq ?_
            refine tri_seq ?_
            refine tri_region ?_
            refine o_move rfl rfl ?_
            refine o_lss rfl rfl rfl ?_
            refine triL_nil ?_
            refine thenQ_normal ?_
            refine tri_if rfl (fun h12 => ?_) (fun h12 => ?_)
            · skip
              refine tri_skip ?_
              refine thenQ_normal ?_
              refine tri_seq ?_
              refine tri_block ?_
              refine tri_seq ?_
              refine tri_region ?_
              refine o_move rfl rfl ?_
              refine o_move rfl rfl ?_
              refine o_callM [poolC q.F q.pool, row (.slice (some ⟨b42, 0, none⟩) 4 4) 30 1 4 (sinceV q.L), row (.slice (some ⟨b41, 0, none⟩) 4 4) 32 1 4 (refsV q.kr)] (dkC j.1 (some ⟨j.2, 0, none⟩) 4 q.a.1 q.a.2 p.e) (rowsC q.L) (dkF j.1 (some ⟨j.2, 0, none⟩) q.a.1) rfl rfl rfl rfl Try.call18 dk_lend dk_lend' (fun w1 h1 h2 => readK j.1 (some ⟨j.2, 0, none⟩) 4 q.a.1 q.a.2 p.e (p.k : Int) w1 h2.cx hp.2.good (by rw [hp.2.cache]; exact Nat.zero_le _)) (fun v _ => ?_)
              have hkr2 := kpe_read hp.2 hi.2.2.len (k := p.k) (by omega)
              rw [hkr2.1]
              dsimp only
              refine o_move rfl rfl ?_
              refine o_extract rfl rfl rfl ?_
              refine o_extract rfl rfl rfl ?_
              refine o_assign rfl rfl ?_
              refine o_assign rfl rfl ?_
              refine triL_nil ?_
              refine thenQ_normal ?_
              refine tri_seq ?_
              refine tri_slots [(20, _), (19, _), (5, _), (7, _), (8, _), (10, _), (18, _)] (.cons rfl (.cons rfl (.cons rfl (.cons rfl (.cons rfl (.cons rfl (.cons rfl (.nil _)))))))) ?_
              refine tri_mixN (_) [(0, 2), (1, 1), (2, 2), (3, 2), (4, 1), (5, 1), (6, 1), (7, 2), (8, 2)] [] (by kernel_rfl) (by kernel_rfl) (fun _ h => h) ?_
              refine mixN_free rfl ?_
              refine o_move rfl rfl ?_
              refine triL_nil ⟨rfl, ?_⟩
              refine mixN_fix rfl ?_
              refine o_toText (l := ((layK q.d.kept q.d.cache keep).getD p.k [])) Try.underlying32 Try.underlying5 Try.underlying9 rfl rfl (RdS.row (i := 3) (.s (.s (.s .z)))) rfl ?_
              refine triL_nil ⟨rfl, ?_⟩
              refine mixN_free rfl ?_
              refine o_move rfl rfl ?_
              refine triL_nil ⟨rfl, ?_⟩
              refine mixN_free rfl ?_
              refine o_move rfl rfl ?_
              refine triL_nil ⟨rfl, ?_⟩
              refine mixN_fix rfl ?_
              refine o_idxS Try.underlying30 sz32 rfl rfl rfl (RdS.row (i := 2) (.s (.s .z))) (by omega) (by omega) (by rw [refs_length, hi.2.2.kr.1, hi.2.2.len]) (by decide) ?_
              refine triL_nil ⟨rfl, ?_⟩
              refine mixN_fix rfl ?_
              refine o_loadR agg32 rfl rfl (RdS.row (i := 2) (.s (.s .z))) (refs_get q.kr p.k (by rw [hi.2.2.kr.1, hi.2.2.len]; omega)) ?_
              refine triL_nil ⟨rfl, ?_⟩
              refine mixN_fix rfl ?_
              refine o_toText (l := (q.d.kept.getD p.k [])) Try.underlying32 Try.underlying5 Try.underlying9 rfl rfl (RdS.pool (i := 0) .z (hi.2.2.kr.2 p.k (by rw [hi.2.2.len]; omega))) (getD_kept hi.2.2.good.1 (by rw [hi.2.2.len]; omega)).symm ?_
              refine triL_nil ⟨rfl, ?_⟩
              refine mixN_free rfl ?_
              refine o_eqlT rfl rfl rfl ?_
              refine triL_nil ⟨rfl, ?_⟩
              refine mixN_free rfl ?_
              refine o_assign rfl rfl ?_
              refine triL_nil ⟨rfl, ?_⟩
              refine mixN_nil ?_
              refine thenQ_normal ?_
              refine tri_seq ?_
              refine tri_seq ?_
              refine tri_slots [(21, _), (20, _), (19, _), (5, _), (7, _), (8, _), (10, _), (18, _)] (.cons rfl (.cons rfl (.cons rfl (.cons rfl (.cons rfl (.cons rfl (.cons rfl (.cons rfl (.nil _))))))))) ?_
              refine tri_region ?_
              refine o_assign rfl rfl ?_
              refine triL_nil ?_
              refine thenQ_normal ?_
              refine tri_block ?_
              refine tri_loop (ι := Nat × Bool) (F := fun r => [(5, .pointer (some ⟨j.1, 0, none⟩)), (7, .slice (some ⟨b41, 0, none⟩) 4 4), (8, .slice (some ⟨b42, 0, none⟩) 4 4), (10, .bool (allK keep q.d.cache.length)), (18, .int .i64 (p.k : Int)), (19, .slice v.1 ((layK q.d.kept q.d.cache keep).getD p.k []).length v.2), (20, .int .i64 0), (21, .bool r.2), (22, .int .i64 (r.1 : Int))]) (HH := fun r => (poolC q.F q.pool :: row (.slice (some ⟨b42, 0, none⟩) 4 4) 30 1 4 (sinceV q.L) :: row (.slice (some ⟨b41, 0, none⟩) 4 4) 32 1 4 (refsV q.kr) :: row (.slice v.1 ((layK q.d.kept q.d.cache keep).getD p.k []).length v.2) 66 1 ((layK q.d.kept q.d.cache keep).getD p.k []).length (bytesV ((layK q.d.kept q.d.cache keep).getD p.k [])) :: ((dkC j.1 (some ⟨j.2, 0, none⟩) 4 q.a.1 q.a.2 { p.e with r := inc p.e.r }) ++ rowsC q.L))) (Pu := fun r => r.1 ≤ (q.L.getD p.k Rw.nil).s.length ∧ r.2 = (decide (((layK q.d.kept q.d.cache keep).getD p.k []) = q.d.kept.getD p.k []) || ((q.d.since p.k).take r.1).any (fun s => decide (((layK q.d.kept q.d.cache keep).getD p.k []) = s)))) (μ := fun r => (q.L.getD p.k Rw.nil).s.length - r.1) ((0, decide (((layK q.d.kept q.d.cache keep).getD p.k []) = q.d.kept.getD p.k []))) (.cons rfl (.cons rfl (.cons rfl (.cons rfl (.cons rfl (.cons rfl (.cons rfl (.cons rfl (.cons rfl (.nil _)))))))))) (fun _ h => h) (⟨Nat.zero_le _, by simp⟩) (fun r hr => ?_)
              refine tri_seq ?_
              refine tri_seq ?_
              refine tri_region ?_
              refine o_move rfl rfl ?_
              refine o_move rfl rfl ?_
              refine o_move rfl rfl ?_
              refine o_idxS Try.underlying31 sz30 rfl rfl rfl (RdS.row (i := 1) (.s .z)) (by omega) (by omega) (by rw [sinceV_length, hi.2.2.rows]) (by decide) ?_
              refine o_loadR agg30 rfl rfl (RdS.row (i := 1) (.s .z)) (sinceV_get q.L p.k (by rw [hi.2.2.rows]; omega)) ?_
              refine o_lenS Try.underlying30 rfl rfl ?_
              refine o_lss rfl rfl rfl ?_
              refine triL_nil ?_
              refine thenQ_normal ?_
              refine tri_if rfl (fun h13 => ?_) (fun h13 => ?_)
              · skip
                have hk4 : p.k < 4 := by omega
                have hkn0 := kp_none hi.2.2 (k := p.k) hk4
                have hkb : (q.L.getD p.k Rw.nil).s.length ≤ 100000 := by rw [hkn0]; exact Nat.le_trans (since_len (fun z hz => (hi.2.2.good.2.1 z hz).2) p.k).2 (by omega)
                refine tri_skip ?_
                refine thenQ_normal ?_
                refine tri_seq ?_
                refine tri_block ?_
                have hk4 : p.k < 4 := by omega
                have hkn0 := kp_none hi.2.2 (k := p.k) hk4
                have hcb : r.2 = true ∨ r.2 = false := by cases r.2 <;> simp
                rcases hcb with hcb | hcb
                · skip
                  rw [hcb]
                  refine tri_slots [(5, _), (7, _), (8, _), (10, _), (18, _), (19, _), (20, _), (21, _), (22, _)] (.cons rfl (.cons rfl (.cons rfl (.cons rfl (.cons rfl (.cons rfl (.cons rfl (.cons rfl (.cons rfl (.nil _)))))))))) ?_
                  refine tri_mixN (_) [(0, 2), (1, 2), (2, 2), (3, 1), (4, 2), (5, 2), (6, 1), (7, 1), (8, 2), (9, 1), (10, 1), (11, 1), (12, 2), (13, 2), (14, 2)] [] (by kernel_rfl) (by kernel_rfl) (fun _ h => h) ?_
                  refine mixN_free rfl ?_
                  refine o_move rfl rfl ?_
                  refine triL_nil ⟨rfl, ?_⟩
                  refine mixN_free rfl ?_
                  refine o_move rfl rfl ?_
                  refine triL_nil ⟨rfl, ?_⟩
                  refine mixN_free rfl ?_
                  refine o_unw rfl rfl ?_
                  refine triL_nil ⟨rfl, ?_⟩
                  refine mixN_fix rfl ?_
                  refine o_unw rfl rfl ?_
                  refine triL_nil ⟨rfl, ?_⟩
                  refine mixN_free rfl ?_
                  refine o_unw rfl rfl ?_
                  refine triL_nil ⟨rfl, ?_⟩
                  refine mixN_free rfl ?_
                  refine o_unw rfl rfl ?_
                  refine triL_nil ⟨rfl, ?_⟩
                  refine mixN_fix rfl ?_
                  refine o_unw rfl rfl ?_
                  refine triL_nil ⟨rfl, ?_⟩
                  refine mixN_fix rfl ?_
                  refine o_unw rfl rfl ?_
                  refine triL_nil ⟨rfl, ?_⟩
                  refine mixN_free rfl ?_
                  refine o_unw rfl rfl ?_
                  refine triL_nil ⟨rfl, ?_⟩
                  refine mixN_fix rfl ?_
                  refine o_unw rfl rfl ?_
                  refine triL_nil ⟨rfl, ?_⟩
                  refine mixN_fix rfl ?_
                  refine o_unw rfl rfl ?_
                  refine triL_nil ⟨rfl, ?_⟩
                  refine mixN_fix rfl ?_
                  refine o_unw rfl rfl ?_
                  refine triL_nil ⟨rfl, ?_⟩
                  refine mixN_free rfl ?_
                  refine o_unw rfl rfl ?_
                  refine triL_nil ⟨rfl, ?_⟩
                  refine mixN_free rfl ?_
                  refine o_pickT rfl rfl rfl rfl ?_
                  refine triL_nil ⟨rfl, ?_⟩
                  refine mixN_free rfl ?_
                  refine o_assign rfl rfl ?_
                  refine triL_nil ⟨rfl, ?_⟩
                  refine mixN_nil ?_
                  refine blockQ_normal ?_
                  refine thenQ_normal ?_
                  refine tri_slots [(21, _), (5, _), (7, _), (8, _), (10, _), (18, _), (19, _), (20, _), (22, _)] (.cons rfl (.cons rfl (.cons rfl (.cons rfl (.cons rfl (.cons rfl (.cons rfl (.cons rfl (.cons rfl (.nil _)))))))))) ?_
                  refine tri_region ?_
                  refine o_move rfl rfl ?_
                  refine o_addN rfl rfl rfl (by omega) ?_
                  refine o_assign rfl rfl ?_
                  refine triL_nil ?_
                  refine thenQ_normal ?_
                  exact ⟨(r.1 + 1, true), (.cons rfl (.cons rfl (.cons rfl (.cons rfl (.cons rfl (.cons rfl (.cons rfl (.cons rfl (.cons rfl (.nil _)))))))))), fun _ h => h, ⟨by simp only; omega, by simp only; rw [any_snoc _ _ _ (by omega), ← Bool.or_assoc, ← hr.2, hcb]; rfl⟩, (by simp only; omega)⟩
                · skip
                  rw [hcb]
                  refine tri_slots [(5, _), (7, _), (8, _), (10, _), (18, _), (19, _), (20, _), (21, _), (22, _)] (.cons rfl (.cons rfl (.cons rfl (.cons rfl (.cons rfl (.cons rfl (.cons rfl (.cons rfl (.cons rfl (.nil _)))))))))) ?_
                  refine tri_mixN (_) [(0, 2), (1, 2), (2, 2), (3, 1), (4, 2), (5, 2), (6, 1), (7, 1), (8, 2), (9, 1), (10, 1), (11, 1), (12, 2), (13, 2), (14, 2)] [] (by kernel_rfl) (by kernel_rfl) (fun _ h => h) ?_
                  refine mixN_free rfl ?_
                  refine o_move rfl rfl ?_
                  refine triL_nil ⟨rfl, ?_⟩
                  refine mixN_free rfl ?_
                  refine o_move rfl rfl ?_
                  refine triL_nil ⟨rfl, ?_⟩
                  refine mixN_free rfl ?_
                  refine o_move rfl rfl ?_
                  refine triL_nil ⟨rfl, ?_⟩
                  refine mixN_fix rfl ?_
                  refine o_toText (l := ((layK q.d.kept q.d.cache keep).getD p.k [])) Try.underlying32 Try.underlying5 Try.underlying9 rfl rfl (RdS.row (i := 3) (.s (.s (.s .z)))) rfl ?_
                  refine triL_nil ⟨rfl, ?_⟩
                  refine mixN_free rfl ?_
                  refine o_move rfl rfl ?_
                  refine triL_nil ⟨rfl, ?_⟩
                  refine mixN_free rfl ?_
                  refine o_move rfl rfl ?_
                  refine triL_nil ⟨rfl, ?_⟩
                  refine mixN_fix rfl ?_
                  refine o_idxS Try.underlying31 sz30 rfl rfl rfl (RdS.row (i := 1) (.s .z)) (by omega) (by omega) (by rw [sinceV_length, hi.2.2.rows]) (by decide) ?_
                  refine triL_nil ⟨rfl, ?_⟩
                  refine mixN_fix rfl ?_
                  refine o_loadR agg30 rfl rfl (RdS.row (i := 1) (.s .z)) (sinceV_get q.L p.k (by rw [hi.2.2.rows]; omega)) ?_
                  refine triL_nil ⟨rfl, ?_⟩
                  refine mixN_free rfl ?_
                  refine o_move rfl rfl ?_
                  refine triL_nil ⟨rfl, ?_⟩
                  refine mixN_fix rfl ?_
                  refine o_idxS Try.underlying30 sz32 rfl rfl rfl (RdS.row (i := _) (.s (.s (.s (.s (.s (.s (.s (nth_rows q.L p.k (by rw [hi.2.2.rows]; omega)))))))))) (by omega) (by omega) (refs_length _) (by decide) ?_
                  refine triL_nil ⟨rfl, ?_⟩
                  refine mixN_fix rfl ?_
                  refine o_loadR agg32 rfl rfl (RdS.row (i := _) (.s (.s (.s (.s (.s (.s (.s (nth_rows q.L p.k (by rw [hi.2.2.rows]; omega)))))))))) (refs_get _ r.1 (by omega)) ?_
                  refine triL_nil ⟨rfl, ?_⟩
                  refine mixN_fix rfl ?_
                  refine o_toText (l := ((q.d.since p.k).getD r.1 [])) Try.underlying32 Try.underlying5 Try.underlying9 rfl rfl (RdS.pool (i := 0) .z ((hi.2.2.since p.k hk4).2 r.1 (by omega))) (getD_kept (since_len (fun z hz => (hi.2.2.good.2.1 z hz).2) p.k).1 (show r.1 < (sinceC q.d.cache p.k).length from by have : (sinceC q.d.cache p.k).length = (q.L.getD p.k Rw.nil).s.length := hkn0.symm; omega)).symm ?_
                  refine triL_nil ⟨rfl, ?_⟩
                  refine mixN_free rfl ?_
                  refine o_eqlT rfl rfl rfl ?_
                  refine triL_nil ⟨rfl, ?_⟩
                  refine mixN_free rfl ?_
                  refine o_pickF rfl rfl rfl rfl ?_
                  refine triL_nil ⟨rfl, ?_⟩
                  refine mixN_free rfl ?_
                  refine o_assign rfl rfl ?_
                  refine triL_nil ⟨rfl, ?_⟩
                  refine mixN_nil ?_
                  refine blockQ_normal ?_
                  refine thenQ_normal ?_
                  refine tri_slots [(21, _), (5, _), (7, _), (8, _), (10, _), (18, _), (19, _), (20, _), (22, _)] (.cons rfl (.cons rfl (.cons rfl (.cons rfl (.cons rfl (.cons rfl (.cons rfl (.cons rfl (.cons rfl (.nil _)))))))))) ?_
                  refine tri_region ?_
                  refine o_move rfl rfl ?_
                  refine o_addN rfl rfl rfl (by omega) ?_
                  refine o_assign rfl rfl ?_
                  refine triL_nil ?_
                  refine thenQ_normal ?_
                  exact ⟨(r.1 + 1, decide (((layK q.d.kept q.d.cache keep).getD p.k []) = ((q.d.since p.k).getD r.1 []))), (.cons rfl (.cons rfl (.cons rfl (.cons rfl (.cons rfl (.cons rfl (.cons rfl (.cons rfl (.cons rfl (.nil _)))))))))), fun _ h => h, ⟨by simp only; omega, by simp only; rw [any_snoc _ _ _ (by omega), ← Bool.or_assoc, ← hr.2, hcb, Bool.false_or]⟩, (by simp only; omega)⟩
              · skip
                have hk4 : p.k < 4 := by omega
                have hkn0 := kp_none hi.2.2 (k := p.k) hk4
                have hin : r.2 = true := by
                  rw [hr.2, List.take_of_length_le (by omega)]
                  exact kpe_in hi.2.2.len keep hk4
                rw [hin]
                refine tri_exit ?_
                refine thenQ_exit ?_
                refine thenQ_exit ?_
                refine blockQ_here ?_
                refine thenQ_normal ?_
                refine tri_seq ?_
                have hk4 : p.k < 4 := by omega
                have hkn0 := kp_none hi.2.2 (k := p.k) hk4
                have hkb : (q.L.getD p.k Rw.nil).s.length ≤ 100000 := by rw [hkn0]; exact Nat.le_trans (since_len (fun z hz => (hi.2.2.good.2.1 z hz).2) p.k).2 (by omega)
                have hca : ((q.d.since p.k) = [] ∧ allK keep q.d.cache.length = true) ∨ ((q.d.since p.k) = [] ∧ allK keep q.d.cache.length = false) ∨ (0 < (q.d.since p.k).length ∧ allK keep q.d.cache.length = true) ∨ (0 < (q.d.since p.k).length ∧ allK keep q.d.cache.length = false) := by
                  cases allK keep q.d.cache.length <;> cases (q.d.since p.k) <;> simp
                rcases hca with ⟨hse, hal⟩ | ⟨hse, hal⟩ | ⟨hse, hal⟩ | ⟨hse, hal⟩
                · skip
                  rw [hal]
                  have hl0 : (q.L.getD p.k Rw.nil).s.length = 0 := by rw [hkn0, hse]; rfl
                  have hbe := kpe_empty hi.2.2.len keep hk4 hse
                  refine tri_slots [(5, _), (7, _), (8, _), (10, _), (18, _), (19, _), (20, _), (21, _)] (.cons rfl (.cons rfl (.cons rfl (.cons rfl (.cons rfl (.cons rfl (.cons rfl (.cons rfl (.nil _))))))))) ?_
                  refine tri_mixN (_) [(0, 2), (1, 2), (2, 2), (3, 2), (4, 2), (5, 2), (6, 2), (7, 2), (8, 2), (9, 1), (10, 1), (11, 2), (12, 2), (13, 2), (14, 2), (15, 1), (16, 2), (17, 2), (18, 1), (19, 1), (20, 1), (21, 2), (22, 2), (23, 2), (24, 2), (25, 2), (26, 2), (27, 2), (28, 2), (29, 1), (30, 1), (31, 2), (32, 2), (33, 2), (34, 2), (35, 2), (36, 1), (37, 2), (38, 2), (39, 1), (40, 1), (41, 2), (42, 2), (43, 1), (44, 1), (45, 2), (46, 2), (47, 1), (48, 1), (49, 1), (50, 2), (51, 2), (52, 2)] [] (by kernel_rfl) (by kernel_rfl) (fun _ h => h) ?_
                  refine mixN_free rfl ?_
                  refine o_move rfl rfl ?_
                  refine triL_nil ⟨rfl, ?_⟩
                  refine mixN_free rfl ?_
                  refine o_neqIF rfl rfl rfl rfl ?_
                  refine triL_nil ⟨rfl, ?_⟩
                  refine mixN_free rfl ?_
                  refine o_move rfl rfl ?_
                  refine triL_nil ⟨rfl, ?_⟩
                  refine mixN_free rfl ?_
                  refine o_move rfl rfl ?_
                  refine triL_nil ⟨rfl, ?_⟩
                  refine mixN_free rfl ?_
                  refine o_not rfl rfl ?_
                  refine triL_nil ⟨rfl, ?_⟩
                  refine mixN_free rfl ?_
                  refine o_pickF rfl rfl rfl rfl ?_
                  refine triL_nil ⟨rfl, ?_⟩
                  refine mixN_free rfl ?_
                  refine o_move rfl rfl ?_
                  refine triL_nil ⟨rfl, ?_⟩
                  refine mixN_free rfl ?_
                  refine o_move rfl rfl ?_
                  refine triL_nil ⟨rfl, ?_⟩
                  refine mixN_free rfl ?_
                  refine o_move rfl rfl ?_
                  refine triL_nil ⟨rfl, ?_⟩
                  refine mixN_fix rfl ?_
                  refine o_idxS Try.underlying31 sz30 rfl rfl rfl (RdS.row (i := 1) (.s .z)) (by omega) (by omega) (by rw [sinceV_length, hi.2.2.rows]) (by decide) ?_
                  refine triL_nil ⟨rfl, ?_⟩
                  refine mixN_fix rfl ?_
                  refine o_loadR agg30 rfl rfl (RdS.row (i := 1) (.s .z)) (sinceV_get q.L p.k (by rw [hi.2.2.rows]; omega)) ?_
                  refine triL_nil ⟨rfl, ?_⟩
                  refine mixN_free rfl ?_
                  refine o_lenS Try.underlying30 rfl rfl ?_
                  refine triL_nil ⟨rfl, ?_⟩
                  refine mixN_free rfl ?_
                  refine o_eqlIT (by omega) rfl rfl rfl ?_
                  refine triL_nil ⟨rfl, ?_⟩
                  refine mixN_free rfl ?_
                  refine o_move rfl rfl ?_
                  refine triL_nil ⟨rfl, ?_⟩
                  refine mixN_free rfl ?_
                  refine o_move rfl rfl ?_
                  refine triL_nil ⟨rfl, ?_⟩
                  refine mixN_fix rfl ?_
                  refine o_toText (l := ((layK q.d.kept q.d.cache keep).getD p.k [])) Try.underlying32 Try.underlying5 Try.underlying9 rfl rfl (RdS.row (i := 3) (.s (.s (.s .z)))) rfl ?_
                  refine triL_nil ⟨rfl, ?_⟩
                  refine mixN_free rfl ?_
                  refine o_move rfl rfl ?_
                  refine triL_nil ⟨rfl, ?_⟩
                  refine mixN_free rfl ?_
                  refine o_move rfl rfl ?_
                  refine triL_nil ⟨rfl, ?_⟩
                  refine mixN_fix rfl ?_
                  refine o_idxS Try.underlying30 sz32 rfl rfl rfl (RdS.row (i := 2) (.s (.s .z))) (by omega) (by omega) (by rw [refs_length, hi.2.2.kr.1, hi.2.2.len]) (by decide) ?_
                  refine triL_nil ⟨rfl, ?_⟩
                  refine mixN_fix rfl ?_
                  refine o_loadR agg32 rfl rfl (RdS.row (i := 2) (.s (.s .z))) (refs_get q.kr p.k (by rw [hi.2.2.kr.1, hi.2.2.len]; omega)) ?_
                  refine triL_nil ⟨rfl, ?_⟩
                  refine mixN_fix rfl ?_
                  refine o_toText (l := (q.d.kept.getD p.k [])) Try.underlying32 Try.underlying5 Try.underlying9 rfl rfl (RdS.pool (i := 0) .z (hi.2.2.kr.2 p.k (by rw [hi.2.2.len]; omega))) (getD_kept hi.2.2.good.1 (by rw [hi.2.2.len]; omega)).symm ?_
                  refine triL_nil ⟨rfl, ?_⟩
                  refine mixN_free rfl ?_
                  refine o_neqSame rfl rfl rfl hbe ?_
                  refine triL_nil ⟨rfl, ?_⟩
                  refine mixN_free rfl ?_
                  refine o_pickT rfl rfl rfl rfl ?_
                  refine triL_nil ⟨rfl, ?_⟩
                  refine mixN_free rfl ?_
                  refine o_pickF rfl rfl rfl rfl ?_
                  refine triL_nil ⟨rfl, ?_⟩
                  refine mixN_free rfl ?_
                  refine o_move rfl rfl ?_
                  refine triL_nil ⟨rfl, ?_⟩
                  refine mixN_free rfl ?_
                  refine o_move rfl rfl ?_
                  refine triL_nil ⟨rfl, ?_⟩
                  refine mixN_free rfl ?_
                  refine o_move rfl rfl ?_
                  refine triL_nil ⟨rfl, ?_⟩
                  refine mixN_free rfl ?_
                  refine o_move rfl rfl ?_
                  refine triL_nil ⟨rfl, ?_⟩
                  refine mixN_free rfl ?_
                  refine o_move rfl rfl ?_
                  refine triL_nil ⟨rfl, ?_⟩
                  refine mixN_fix rfl ?_
                  refine o_idxS Try.underlying31 sz30 rfl rfl rfl (RdS.row (i := 1) (.s .z)) (by omega) (by omega) (by rw [sinceV_length, hi.2.2.rows]) (by decide) ?_
                  refine triL_nil ⟨rfl, ?_⟩
                  refine mixN_fix rfl ?_
                  refine o_loadR agg30 rfl rfl (RdS.row (i := 1) (.s .z)) (sinceV_get q.L p.k (by rw [hi.2.2.rows]; omega)) ?_
                  refine triL_nil ⟨rfl, ?_⟩
                  refine mixN_free rfl ?_
                  refine o_lenS Try.underlying30 rfl rfl ?_
                  refine triL_nil ⟨rfl, ?_⟩
                  refine mixN_free rfl ?_
                  refine o_gtrIF (by omega) rfl rfl rfl ?_
                  refine triL_nil ⟨rfl, ?_⟩
                  refine mixN_free rfl ?_
                  refine o_pickT rfl rfl rfl rfl ?_
                  refine triL_nil ⟨rfl, ?_⟩
                  refine mixN_free rfl ?_
                  refine o_move rfl rfl ?_
                  refine triL_nil ⟨rfl, ?_⟩
                  refine mixN_free rfl ?_
                  refine o_unw rfl rfl ?_
                  refine triL_nil ⟨rfl, ?_⟩
                  refine mixN_fix rfl ?_
                  refine o_unw rfl rfl ?_
                  refine triL_nil ⟨rfl, ?_⟩
                  refine mixN_free rfl ?_
                  refine o_unw rfl rfl ?_
                  refine triL_nil ⟨rfl, ?_⟩
                  refine mixN_free rfl ?_
                  refine o_unw rfl rfl ?_
                  refine triL_nil ⟨rfl, ?_⟩
                  refine mixN_fix rfl ?_
                  refine o_unw rfl rfl ?_
                  refine triL_nil ⟨rfl, ?_⟩
                  refine mixN_fix rfl ?_
                  refine o_unw rfl rfl ?_
                  refine triL_nil ⟨rfl, ?_⟩
                  refine mixN_free rfl ?_
                  refine o_unw rfl rfl ?_
                  refine triL_nil ⟨rfl, ?_⟩
                  refine mixN_free rfl ?_
                  refine o_unw rfl rfl ?_
                  refine triL_nil ⟨rfl, ?_⟩
                  refine mixN_fix rfl ?_
                  refine o_unw rfl rfl ?_
                  refine triL_nil ⟨rfl, ?_⟩
                  refine mixN_fix rfl ?_
                  refine o_unw rfl rfl ?_
                  refine triL_nil ⟨rfl, ?_⟩
                  refine mixN_free rfl ?_
                  refine o_unw rfl rfl ?_
                  refine triL_nil ⟨rfl, ?_⟩
                  refine mixN_free rfl ?_
                  refine o_unw rfl rfl ?_
                  refine triL_nil ⟨rfl, ?_⟩
                  refine mixN_fix rfl ?_
                  refine o_unw rfl rfl ?_
                  refine triL_nil ⟨rfl, ?_⟩
                  refine mixN_fix rfl ?_
                  refine o_unw rfl rfl ?_
                  refine triL_nil ⟨rfl, ?_⟩
                  refine mixN_fix rfl ?_
                  refine o_unw rfl rfl ?_
                  refine triL_nil ⟨rfl, ?_⟩
                  refine mixN_free rfl ?_
                  refine o_unw rfl rfl ?_
                  refine triL_nil ⟨rfl, ?_⟩
                  refine mixN_free rfl ?_
                  refine o_pickF rfl rfl rfl rfl ?_
                  refine triL_nil ⟨rfl, ?_⟩
                  refine mixN_free rfl ?_
                  refine o_pickF rfl rfl rfl rfl ?_
                  refine triL_nil ⟨rfl, ?_⟩
                  refine mixN_nil ?_
                  refine thenQ_normal ?_
                  refine tri_cond_false rfl ?_
                  refine tri_skip ?_
                  refine blockQ_normal ?_
                  refine thenQ_normal ?_
                  refine tri_slots [(5, _), (7, _), (8, _), (10, _), (18, _)] (.cons rfl (.cons rfl (.cons rfl (.cons rfl (.cons rfl (.nil _)))))) ?_
                  refine tri_region ?_
                  refine o_move rfl rfl ?_
                  refine o_addN rfl rfl rfl (by omega) ?_
                  refine o_assign rfl rfl ?_
                  refine triL_nil ?_
                  refine thenQ_normal ?_
                  exact ⟨⟨p.k + 1, { p.e with r := inc p.e.r }⟩, (.cons rfl (.cons rfl (.cons rfl (.cons rfl (.cons rfl (.nil _)))))), (fun w1 hw => hw.sublist (List.Sublist.cons_cons _ (List.Sublist.cons_cons _ (List.Sublist.cons_cons _ (List.Sublist.cons _ (List.Sublist.refl _)))))), ⟨by simp only; omega, hkr2.2⟩, (by simp only; omega)⟩
                · skip
                  rw [hal]
                  have hl0 : (q.L.getD p.k Rw.nil).s.length = 0 := by rw [hkn0, hse]; rfl
                  have hbe := kpe_empty hi.2.2.len keep hk4 hse
                  refine tri_slots [(5, _), (7, _), (8, _), (10, _), (18, _), (19, _), (20, _), (21, _)] (.cons rfl (.cons rfl (.cons rfl (.cons rfl (.cons rfl (.cons rfl (.cons rfl (.cons rfl (.nil _))))))))) ?_
                  refine tri_mixN (_) [(0, 2), (1, 2), (2, 2), (3, 2), (4, 2), (5, 2), (6, 2), (7, 2), (8, 2), (9, 1), (10, 1), (11, 2), (12, 2), (13, 2), (14, 2), (15, 1), (16, 2), (17, 2), (18, 1), (19, 1), (20, 1), (21, 2), (22, 2), (23, 2), (24, 2), (25, 2), (26, 2), (27, 2), (28, 2), (29, 1), (30, 1), (31, 2), (32, 2), (33, 2), (34, 2), (35, 2), (36, 1), (37, 2), (38, 2), (39, 1), (40, 1), (41, 2), (42, 2), (43, 1), (44, 1), (45, 2), (46, 2), (47, 1), (48, 1), (49, 1), (50, 2), (51, 2), (52, 2)] [] (by kernel_rfl) (by kernel_rfl) (fun _ h => h) ?_
                  refine mixN_free rfl ?_
                  refine o_move rfl rfl ?_
                  refine triL_nil ⟨rfl, ?_⟩
                  refine mixN_free rfl ?_
                  refine o_neqIF rfl rfl rfl rfl ?_
                  refine triL_nil ⟨rfl, ?_⟩
                  refine mixN_free rfl ?_
                  refine o_move rfl rfl ?_
                  refine triL_nil ⟨rfl, ?_⟩
                  refine mixN_free rfl ?_
                  refine o_move rfl rfl ?_
                  refine triL_nil ⟨rfl, ?_⟩
                  refine mixN_free rfl ?_
                  refine o_not rfl rfl ?_
                  refine triL_nil ⟨rfl, ?_⟩
                  refine mixN_free rfl ?_
                  refine o_pickF rfl rfl rfl rfl ?_
                  refine triL_nil ⟨rfl, ?_⟩
                  refine mixN_free rfl ?_
                  refine o_move rfl rfl ?_
                  refine triL_nil ⟨rfl, ?_⟩
                  refine mixN_free rfl ?_
                  refine o_move rfl rfl ?_
                  refine triL_nil ⟨rfl, ?_⟩
                  refine mixN_free rfl ?_
                  refine o_move rfl rfl ?_
                  refine triL_nil ⟨rfl, ?_⟩
                  refine mixN_fix rfl ?_
                  refine o_idxS Try.underlying31 sz30 rfl rfl rfl (RdS.row (i := 1) (.s .z)) (by omega) (by omega) (by rw [sinceV_length, hi.2.2.rows]) (by decide) ?_
                  refine triL_nil ⟨rfl, ?_⟩
                  refine mixN_fix rfl ?_
                  refine o_loadR agg30 rfl rfl (RdS.row (i := 1) (.s .z)) (sinceV_get q.L p.k (by rw [hi.2.2.rows]; omega)) ?_
                  refine triL_nil ⟨rfl, ?_⟩
                  refine mixN_free rfl ?_
                  refine o_lenS Try.underlying30 rfl rfl ?_
                  refine triL_nil ⟨rfl, ?_⟩
                  refine mixN_free rfl ?_
                  refine o_eqlIT (by omega) rfl rfl rfl ?_
                  refine triL_nil ⟨rfl, ?_⟩
                  refine mixN_free rfl ?_
                  refine o_move rfl rfl ?_
                  refine triL_nil ⟨rfl, ?_⟩
                  refine mixN_free rfl ?_
                  refine o_move rfl rfl ?_
                  refine triL_nil ⟨rfl, ?_⟩
                  refine mixN_fix rfl ?_
                  refine o_toText (l := ((layK q.d.kept q.d.cache keep).getD p.k [])) Try.underlying32 Try.underlying5 Try.underlying9 rfl rfl (RdS.row (i := 3) (.s (.s (.s .z)))) rfl ?_
                  refine triL_nil ⟨rfl, ?_⟩
                  refine mixN_free rfl ?_
                  refine o_move rfl rfl ?_
                  refine triL_nil ⟨rfl, ?_⟩
                  refine mixN_free rfl ?_
                  refine o_move rfl rfl ?_
                  refine triL_nil ⟨rfl, ?_⟩
                  refine mixN_fix rfl ?_
                  refine o_idxS Try.underlying30 sz32 rfl rfl rfl (RdS.row (i := 2) (.s (.s .z))) (by omega) (by omega) (by rw [refs_length, hi.2.2.kr.1, hi.2.2.len]) (by decide) ?_
                  refine triL_nil ⟨rfl, ?_⟩
                  refine mixN_fix rfl ?_
                  refine o_loadR agg32 rfl rfl (RdS.row (i := 2) (.s (.s .z))) (refs_get q.kr p.k (by rw [hi.2.2.kr.1, hi.2.2.len]; omega)) ?_
                  refine triL_nil ⟨rfl, ?_⟩
                  refine mixN_fix rfl ?_
                  refine o_toText (l := (q.d.kept.getD p.k [])) Try.underlying32 Try.underlying5 Try.underlying9 rfl rfl (RdS.pool (i := 0) .z (hi.2.2.kr.2 p.k (by rw [hi.2.2.len]; omega))) (getD_kept hi.2.2.good.1 (by rw [hi.2.2.len]; omega)).symm ?_
                  refine triL_nil ⟨rfl, ?_⟩
                  refine mixN_free rfl ?_
                  refine o_neqSame rfl rfl rfl hbe ?_
                  refine triL_nil ⟨rfl, ?_⟩
                  refine mixN_free rfl ?_
                  refine o_pickT rfl rfl rfl rfl ?_
                  refine triL_nil ⟨rfl, ?_⟩
                  refine mixN_free rfl ?_
                  refine o_pickF rfl rfl rfl rfl ?_
                  refine triL_nil ⟨rfl, ?_⟩
                  refine mixN_free rfl ?_
                  refine o_move rfl rfl ?_
                  refine triL_nil ⟨rfl, ?_⟩
                  refine mixN_free rfl ?_
                  refine o_move rfl rfl ?_
                  refine triL_nil ⟨rfl, ?_⟩
                  refine mixN_free rfl ?_
                  refine o_move rfl rfl ?_
                  refine triL_nil ⟨rfl, ?_⟩
                  refine mixN_free rfl ?_
                  refine o_unw rfl rfl ?_
                  refine triL_nil ⟨rfl, ?_⟩
                  refine mixN_free rfl ?_
                  refine o_unw rfl rfl ?_
                  refine triL_nil ⟨rfl, ?_⟩
                  refine mixN_fix rfl ?_
                  refine o_unw rfl rfl ?_
                  refine triL_nil ⟨rfl, ?_⟩
                  refine mixN_fix rfl ?_
                  refine o_unw rfl rfl ?_
                  refine triL_nil ⟨rfl, ?_⟩
                  refine mixN_free rfl ?_
                  refine o_unw rfl rfl ?_
                  refine triL_nil ⟨rfl, ?_⟩
                  refine mixN_free rfl ?_
                  refine o_unw rfl rfl ?_
                  refine triL_nil ⟨rfl, ?_⟩
                  refine mixN_free rfl ?_
                  refine o_pickF rfl rfl rfl rfl ?_
                  refine triL_nil ⟨rfl, ?_⟩
                  refine mixN_free rfl ?_
                  refine o_move rfl rfl ?_
                  refine triL_nil ⟨rfl, ?_⟩
                  refine mixN_free rfl ?_
                  refine o_unw rfl rfl ?_
                  refine triL_nil ⟨rfl, ?_⟩
                  refine mixN_fix rfl ?_
                  refine o_unw rfl rfl ?_
                  refine triL_nil ⟨rfl, ?_⟩
                  refine mixN_free rfl ?_
                  refine o_unw rfl rfl ?_
                  refine triL_nil ⟨rfl, ?_⟩
                  refine mixN_free rfl ?_
                  refine o_unw rfl rfl ?_
                  refine triL_nil ⟨rfl, ?_⟩
                  refine mixN_fix rfl ?_
                  refine o_unw rfl rfl ?_
                  refine triL_nil ⟨rfl, ?_⟩
                  refine mixN_fix rfl ?_
                  refine o_unw rfl rfl ?_
                  refine triL_nil ⟨rfl, ?_⟩
                  refine mixN_free rfl ?_
                  refine o_unw rfl rfl ?_
                  refine triL_nil ⟨rfl, ?_⟩
                  refine mixN_free rfl ?_
                  refine o_unw rfl rfl ?_
                  refine triL_nil ⟨rfl, ?_⟩
                  refine mixN_fix rfl ?_
                  refine o_unw rfl rfl ?_
                  refine triL_nil ⟨rfl, ?_⟩
                  refine mixN_fix rfl ?_
                  refine o_unw rfl rfl ?_
                  refine triL_nil ⟨rfl, ?_⟩
                  refine mixN_free rfl ?_
                  refine o_unw rfl rfl ?_
                  refine triL_nil ⟨rfl, ?_⟩
                  refine mixN_free rfl ?_
                  refine o_unw rfl rfl ?_
                  refine triL_nil ⟨rfl, ?_⟩
                  refine mixN_fix rfl ?_
                  refine o_unw rfl rfl ?_
                  refine triL_nil ⟨rfl, ?_⟩
                  refine mixN_fix rfl ?_
                  refine o_unw rfl rfl ?_
                  refine triL_nil ⟨rfl, ?_⟩
                  refine mixN_fix rfl ?_
                  refine o_unw rfl rfl ?_
                  refine triL_nil ⟨rfl, ?_⟩
                  refine mixN_free rfl ?_
                  refine o_unw rfl rfl ?_
                  refine triL_nil ⟨rfl, ?_⟩
                  refine mixN_free rfl ?_
                  refine o_pickF rfl rfl rfl rfl ?_
                  refine triL_nil ⟨rfl, ?_⟩
                  refine mixN_free rfl ?_
                  refine o_pickF rfl rfl rfl rfl ?_
                  refine triL_nil ⟨rfl, ?_⟩
                  refine mixN_nil ?_
                  refine thenQ_normal ?_
                  refine tri_cond_false rfl ?_
                  refine tri_skip ?_
                  refine blockQ_normal ?_
                  refine thenQ_normal ?_
                  refine tri_slots [(5, _), (7, _), (8, _), (10, _), (18, _)] (.cons rfl (.cons rfl (.cons rfl (.cons rfl (.cons rfl (.nil _)))))) ?_
                  refine tri_region ?_
                  refine o_move rfl rfl ?_
                  refine o_addN rfl rfl rfl (by omega) ?_
                  refine o_assign rfl rfl ?_
                  refine triL_nil ?_
                  refine thenQ_normal ?_
                  exact ⟨⟨p.k + 1, { p.e with r := inc p.e.r }⟩, (.cons rfl (.cons rfl (.cons rfl (.cons rfl (.cons rfl (.nil _)))))), (fun w1 hw => hw.sublist (List.Sublist.cons_cons _ (List.Sublist.cons_cons _ (List.Sublist.cons_cons _ (List.Sublist.cons _ (List.Sublist.refl _)))))), ⟨by simp only; omega, hkr2.2⟩, (by simp only; omega)⟩
                · skip
                  rw [hal]
                  have hl0 : 0 < (q.L.getD p.k Rw.nil).s.length := by rw [hkn0]; exact hse
                  have hba := kpe_all hi.2.2.len hk4 hal hse
                  refine tri_slots [(5, _), (7, _), (8, _), (10, _), (18, _), (19, _), (20, _), (21, _)] (.cons rfl (.cons rfl (.cons rfl (.cons rfl (.cons rfl (.cons rfl (.cons rfl (.cons rfl (.nil _))))))))) ?_
                  refine tri_mixN (_) [(0, 2), (1, 2), (2, 2), (3, 2), (4, 2), (5, 2), (6, 2), (7, 2), (8, 2), (9, 1), (10, 1), (11, 2), (12, 2), (13, 2), (14, 2), (15, 1), (16, 2), (17, 2), (18, 1), (19, 1), (20, 1), (21, 2), (22, 2), (23, 2), (24, 2), (25, 2), (26, 2), (27, 2), (28, 2), (29, 1), (30, 1), (31, 2), (32, 2), (33, 2), (34, 2), (35, 2), (36, 1), (37, 2), (38, 2), (39, 1), (40, 1), (41, 2), (42, 2), (43, 1), (44, 1), (45, 2), (46, 2), (47, 1), (48, 1), (49, 1), (50, 2), (51, 2), (52, 2)] [] (by kernel_rfl) (by kernel_rfl) (fun _ h => h) ?_
                  refine mixN_free rfl ?_
                  refine o_move rfl rfl ?_
                  refine triL_nil ⟨rfl, ?_⟩
                  refine mixN_free rfl ?_
                  refine o_neqIF rfl rfl rfl rfl ?_
                  refine triL_nil ⟨rfl, ?_⟩
                  refine mixN_free rfl ?_
                  refine o_move rfl rfl ?_
                  refine triL_nil ⟨rfl, ?_⟩
                  refine mixN_free rfl ?_
                  refine o_move rfl rfl ?_
                  refine triL_nil ⟨rfl, ?_⟩
                  refine mixN_free rfl ?_
                  refine o_not rfl rfl ?_
                  refine triL_nil ⟨rfl, ?_⟩
                  refine mixN_free rfl ?_
                  refine o_pickF rfl rfl rfl rfl ?_
                  refine triL_nil ⟨rfl, ?_⟩
                  refine mixN_free rfl ?_
                  refine o_move rfl rfl ?_
                  refine triL_nil ⟨rfl, ?_⟩
                  refine mixN_free rfl ?_
                  refine o_move rfl rfl ?_
                  refine triL_nil ⟨rfl, ?_⟩
                  refine mixN_free rfl ?_
                  refine o_move rfl rfl ?_
                  refine triL_nil ⟨rfl, ?_⟩
                  refine mixN_fix rfl ?_
                  refine o_idxS Try.underlying31 sz30 rfl rfl rfl (RdS.row (i := 1) (.s .z)) (by omega) (by omega) (by rw [sinceV_length, hi.2.2.rows]) (by decide) ?_
                  refine triL_nil ⟨rfl, ?_⟩
                  refine mixN_fix rfl ?_
                  refine o_loadR agg30 rfl rfl (RdS.row (i := 1) (.s .z)) (sinceV_get q.L p.k (by rw [hi.2.2.rows]; omega)) ?_
                  refine triL_nil ⟨rfl, ?_⟩
                  refine mixN_free rfl ?_
                  refine o_lenS Try.underlying30 rfl rfl ?_
                  refine triL_nil ⟨rfl, ?_⟩
                  refine mixN_free rfl ?_
                  refine o_eqlIF (by omega) rfl rfl rfl ?_
                  refine triL_nil ⟨rfl, ?_⟩
                  refine mixN_free rfl ?_
                  refine o_move rfl rfl ?_
                  refine triL_nil ⟨rfl, ?_⟩
                  refine mixN_free rfl ?_
                  refine o_unw rfl rfl ?_
                  refine triL_nil ⟨rfl, ?_⟩
                  refine mixN_fix rfl ?_
                  refine o_unw rfl rfl ?_
                  refine triL_nil ⟨rfl, ?_⟩
                  refine mixN_free rfl ?_
                  refine o_unw rfl rfl ?_
                  refine triL_nil ⟨rfl, ?_⟩
                  refine mixN_free rfl ?_
                  refine o_unw rfl rfl ?_
                  refine triL_nil ⟨rfl, ?_⟩
                  refine mixN_fix rfl ?_
                  refine o_unw rfl rfl ?_
                  refine triL_nil ⟨rfl, ?_⟩
                  refine mixN_fix rfl ?_
                  refine o_unw rfl rfl ?_
                  refine triL_nil ⟨rfl, ?_⟩
                  refine mixN_fix rfl ?_
                  refine o_unw rfl rfl ?_
                  refine triL_nil ⟨rfl, ?_⟩
                  refine mixN_free rfl ?_
                  refine o_unw rfl rfl ?_
                  refine triL_nil ⟨rfl, ?_⟩
                  refine mixN_free rfl ?_
                  refine o_pickF rfl rfl rfl rfl ?_
                  refine triL_nil ⟨rfl, ?_⟩
                  refine mixN_free rfl ?_
                  refine o_pickF rfl rfl rfl rfl ?_
                  refine triL_nil ⟨rfl, ?_⟩
                  refine mixN_free rfl ?_
                  refine o_move rfl rfl ?_
                  refine triL_nil ⟨rfl, ?_⟩
                  refine mixN_free rfl ?_
                  refine o_move rfl rfl ?_
                  refine triL_nil ⟨rfl, ?_⟩
                  refine mixN_free rfl ?_
                  refine o_move rfl rfl ?_
                  refine triL_nil ⟨rfl, ?_⟩
                  refine mixN_free rfl ?_
                  refine o_move rfl rfl ?_
                  refine triL_nil ⟨rfl, ?_⟩
                  refine mixN_free rfl ?_
                  refine o_move rfl rfl ?_
                  refine triL_nil ⟨rfl, ?_⟩
                  refine mixN_fix rfl ?_
                  refine o_idxS Try.underlying31 sz30 rfl rfl rfl (RdS.row (i := 1) (.s .z)) (by omega) (by omega) (by rw [sinceV_length, hi.2.2.rows]) (by decide) ?_
                  refine triL_nil ⟨rfl, ?_⟩
                  refine mixN_fix rfl ?_
                  refine o_loadR agg30 rfl rfl (RdS.row (i := 1) (.s .z)) (sinceV_get q.L p.k (by rw [hi.2.2.rows]; omega)) ?_
                  refine triL_nil ⟨rfl, ?_⟩
                  refine mixN_free rfl ?_
                  refine o_lenS Try.underlying30 rfl rfl ?_
                  refine triL_nil ⟨rfl, ?_⟩
                  refine mixN_free rfl ?_
                  refine o_gtrIT (by omega) rfl rfl rfl ?_
                  refine triL_nil ⟨rfl, ?_⟩
                  refine mixN_free rfl ?_
                  refine o_pickT rfl rfl rfl rfl ?_
                  refine triL_nil ⟨rfl, ?_⟩
                  refine mixN_free rfl ?_
                  refine o_move rfl rfl ?_
                  refine triL_nil ⟨rfl, ?_⟩
                  refine mixN_free rfl ?_
                  refine o_move rfl rfl ?_
                  refine triL_nil ⟨rfl, ?_⟩
                  refine mixN_fix rfl ?_
                  refine o_toText (l := ((layK q.d.kept q.d.cache keep).getD p.k [])) Try.underlying32 Try.underlying5 Try.underlying9 rfl rfl (RdS.row (i := 3) (.s (.s (.s .z)))) rfl ?_
                  refine triL_nil ⟨rfl, ?_⟩
                  refine mixN_free rfl ?_
                  refine o_move rfl rfl ?_
                  refine triL_nil ⟨rfl, ?_⟩
                  refine mixN_free rfl ?_
                  refine o_move rfl rfl ?_
                  refine triL_nil ⟨rfl, ?_⟩
                  refine mixN_fix rfl ?_
                  refine o_idxS Try.underlying31 sz30 rfl rfl rfl (RdS.row (i := 1) (.s .z)) (by omega) (by omega) (by rw [sinceV_length, hi.2.2.rows]) (by decide) ?_
                  refine triL_nil ⟨rfl, ?_⟩
                  refine mixN_fix rfl ?_
                  refine o_loadR agg30 rfl rfl (RdS.row (i := 1) (.s .z)) (sinceV_get q.L p.k (by rw [hi.2.2.rows]; omega)) ?_
                  refine triL_nil ⟨rfl, ?_⟩
                  refine mixN_free rfl ?_
                  refine o_move rfl rfl ?_
                  refine triL_nil ⟨rfl, ?_⟩
                  refine mixN_free rfl ?_
                  refine o_move rfl rfl ?_
                  refine triL_nil ⟨rfl, ?_⟩
                  refine mixN_fix rfl ?_
                  refine o_idxS Try.underlying31 sz30 rfl rfl rfl (RdS.row (i := 1) (.s .z)) (by omega) (by omega) (by rw [sinceV_length, hi.2.2.rows]) (by decide) ?_
                  refine triL_nil ⟨rfl, ?_⟩
                  refine mixN_fix rfl ?_
                  refine o_loadR agg30 rfl rfl (RdS.row (i := 1) (.s .z)) (sinceV_get q.L p.k (by rw [hi.2.2.rows]; omega)) ?_
                  refine triL_nil ⟨rfl, ?_⟩
                  refine mixN_free rfl ?_
                  refine o_lenS Try.underlying30 rfl rfl ?_
                  refine triL_nil ⟨rfl, ?_⟩
                  refine mixN_free rfl ?_
                  refine o_subN rfl rfl rfl (by omega) ?_
                  refine triL_nil ⟨rfl, ?_⟩
                  refine mixN_fix rfl ?_
                  refine o_idxS Try.underlying30 sz32 rfl rfl rfl (RdS.row (i := _) (.s (.s (.s (.s (.s (.s (.s (nth_rows q.L p.k (by rw [hi.2.2.rows]; omega)))))))))) (by omega) (by omega) (refs_length _) (by decide) ?_
                  refine triL_nil ⟨rfl, ?_⟩
                  refine mixN_fix rfl ?_
                  refine o_loadR agg32 rfl rfl (RdS.row (i := _) (.s (.s (.s (.s (.s (.s (.s (nth_rows q.L p.k (by rw [hi.2.2.rows]; omega)))))))))) (by rw [show ((((q.L.getD p.k Rw.nil).s.length : Nat) : Int) - 1).toNat = (q.L.getD p.k Rw.nil).s.length - 1 by omega]; exact refs_get _ _ (by omega)) ?_
                  refine triL_nil ⟨rfl, ?_⟩
                  refine mixN_fix rfl ?_
                  refine o_toText (l := ((q.d.since p.k).getD ((q.L.getD p.k Rw.nil).s.length - 1) [])) Try.underlying32 Try.underlying5 Try.underlying9 rfl rfl (RdS.pool (i := 0) .z ((hi.2.2.since p.k hk4).2 _ (by omega))) (by show _ = ((sinceC q.d.cache p.k).getD ((q.L.getD p.k Rw.nil).s.length - 1) []).length; rw [getD_kept (since_len (fun z hz => (hi.2.2.good.2.1 z hz).2) p.k).1 (show (q.L.getD p.k Rw.nil).s.length - 1 < (sinceC q.d.cache p.k).length from by have : (sinceC q.d.cache p.k).length = (q.L.getD p.k Rw.nil).s.length := hkn0.symm; omega)]) ?_
                  refine triL_nil ⟨rfl, ?_⟩
                  refine mixN_free rfl ?_
                  refine o_neqSame rfl rfl rfl (by rw [hba, hkn0]) ?_
                  refine triL_nil ⟨rfl, ?_⟩
                  refine mixN_free rfl ?_
                  refine o_pickT rfl rfl rfl rfl ?_
                  refine triL_nil ⟨rfl, ?_⟩
                  refine mixN_free rfl ?_
                  refine o_pickF rfl rfl rfl rfl ?_
                  refine triL_nil ⟨rfl, ?_⟩
                  refine mixN_nil ?_
                  refine thenQ_normal ?_
                  refine tri_cond_false rfl ?_
                  refine tri_skip ?_
                  refine blockQ_normal ?_
                  refine thenQ_normal ?_
                  refine tri_slots [(5, _), (7, _), (8, _), (10, _), (18, _)] (.cons rfl (.cons rfl (.cons rfl (.cons rfl (.cons rfl (.nil _)))))) ?_
                  refine tri_region ?_
                  refine o_move rfl rfl ?_
                  refine o_addN rfl rfl rfl (by omega) ?_
                  refine o_assign rfl rfl ?_
                  refine triL_nil ?_
                  refine thenQ_normal ?_
                  exact ⟨⟨p.k + 1, { p.e with r := inc p.e.r }⟩, (.cons rfl (.cons rfl (.cons rfl (.cons rfl (.cons rfl (.nil _)))))), (fun w1 hw => hw.sublist (List.Sublist.cons_cons _ (List.Sublist.cons_cons _ (List.Sublist.cons_cons _ (List.Sublist.cons _ (List.Sublist.refl _)))))), ⟨by simp only; omega, hkr2.2⟩, (by simp only; omega)⟩
                · skip
                  rw [hal]
                  have hl0 : 0 < (q.L.getD p.k Rw.nil).s.length := by rw [hkn0]; exact hse
                  refine tri_slots [(5, _), (7, _), (8, _), (10, _), (18, _), (19, _), (20, _), (21, _)] (.cons rfl (.cons rfl (.cons rfl (.cons rfl (.cons rfl (.cons rfl (.cons rfl (.cons rfl (.nil _))))))))) ?_
                  refine tri_mixN (_) [(0, 2), (1, 2), (2, 2), (3, 2), (4, 2), (5, 2), (6, 2), (7, 2), (8, 2), (9, 1), (10, 1), (11, 2), (12, 2), (13, 2), (14, 2), (15, 1), (16, 2), (17, 2), (18, 1), (19, 1), (20, 1), (21, 2), (22, 2), (23, 2), (24, 2), (25, 2), (26, 2), (27, 2), (28, 2), (29, 1), (30, 1), (31, 2), (32, 2), (33, 2), (34, 2), (35, 2), (36, 1), (37, 2), (38, 2), (39, 1), (40, 1), (41, 2), (42, 2), (43, 1), (44, 1), (45, 2), (46, 2), (47, 1), (48, 1), (49, 1), (50, 2), (51, 2), (52, 2)] [] (by kernel_rfl) (by kernel_rfl) (fun _ h => h) ?_
                  refine mixN_free rfl ?_
                  refine o_move rfl rfl ?_
                  refine triL_nil ⟨rfl, ?_⟩
                  refine mixN_free rfl ?_
                  refine o_neqIF rfl rfl rfl rfl ?_
                  refine triL_nil ⟨rfl, ?_⟩
                  refine mixN_free rfl ?_
                  refine o_move rfl rfl ?_
                  refine triL_nil ⟨rfl, ?_⟩
                  refine mixN_free rfl ?_
                  refine o_move rfl rfl ?_
                  refine triL_nil ⟨rfl, ?_⟩
                  refine mixN_free rfl ?_
                  refine o_not rfl rfl ?_
                  refine triL_nil ⟨rfl, ?_⟩
                  refine mixN_free rfl ?_
                  refine o_pickF rfl rfl rfl rfl ?_
                  refine triL_nil ⟨rfl, ?_⟩
                  refine mixN_free rfl ?_
                  refine o_move rfl rfl ?_
                  refine triL_nil ⟨rfl, ?_⟩
                  refine mixN_free rfl ?_
                  refine o_move rfl rfl ?_
                  refine triL_nil ⟨rfl, ?_⟩
                  refine mixN_free rfl ?_
                  refine o_move rfl rfl ?_
                  refine triL_nil ⟨rfl, ?_⟩
                  refine mixN_fix rfl ?_
                  refine o_idxS Try.underlying31 sz30 rfl rfl rfl (RdS.row (i := 1) (.s .z)) (by omega) (by omega) (by rw [sinceV_length, hi.2.2.rows]) (by decide) ?_
                  refine triL_nil ⟨rfl, ?_⟩
                  refine mixN_fix rfl ?_
                  refine o_loadR agg30 rfl rfl (RdS.row (i := 1) (.s .z)) (sinceV_get q.L p.k (by rw [hi.2.2.rows]; omega)) ?_
                  refine triL_nil ⟨rfl, ?_⟩
                  refine mixN_free rfl ?_
                  refine o_lenS Try.underlying30 rfl rfl ?_
                  refine triL_nil ⟨rfl, ?_⟩
                  refine mixN_free rfl ?_
                  refine o_eqlIF (by omega) rfl rfl rfl ?_
                  refine triL_nil ⟨rfl, ?_⟩
                  refine mixN_free rfl ?_
                  refine o_move rfl rfl ?_
                  refine triL_nil ⟨rfl, ?_⟩
                  refine mixN_free rfl ?_
                  refine o_unw rfl rfl ?_
                  refine triL_nil ⟨rfl, ?_⟩
                  refine mixN_fix rfl ?_
                  refine o_unw rfl rfl ?_
                  refine triL_nil ⟨rfl, ?_⟩
                  refine mixN_free rfl ?_
                  refine o_unw rfl rfl ?_
                  refine triL_nil ⟨rfl, ?_⟩
                  refine mixN_free rfl ?_
                  refine o_unw rfl rfl ?_
                  refine triL_nil ⟨rfl, ?_⟩
                  refine mixN_fix rfl ?_
                  refine o_unw rfl rfl ?_
                  refine triL_nil ⟨rfl, ?_⟩
                  refine mixN_fix rfl ?_
                  refine o_unw rfl rfl ?_
                  refine triL_nil ⟨rfl, ?_⟩
                  refine mixN_fix rfl ?_
                  refine o_unw rfl rfl ?_
                  refine triL_nil ⟨rfl, ?_⟩
                  refine mixN_free rfl ?_
                  refine o_unw rfl rfl ?_
                  refine triL_nil ⟨rfl, ?_⟩
                  refine mixN_free rfl ?_
                  refine o_pickF rfl rfl rfl rfl ?_
                  refine triL_nil ⟨rfl, ?_⟩
                  refine mixN_free rfl ?_
                  refine o_pickF rfl rfl rfl rfl ?_
                  refine triL_nil ⟨rfl, ?_⟩
                  refine mixN_free rfl ?_
                  refine o_move rfl rfl ?_
                  refine triL_nil ⟨rfl, ?_⟩
                  refine mixN_free rfl ?_
                  refine o_move rfl rfl ?_
                  refine triL_nil ⟨rfl, ?_⟩
                  refine mixN_free rfl ?_
                  refine o_move rfl rfl ?_
                  refine triL_nil ⟨rfl, ?_⟩
                  refine mixN_free rfl ?_
                  refine o_unw rfl rfl ?_
                  refine triL_nil ⟨rfl, ?_⟩
                  refine mixN_free rfl ?_
                  refine o_unw rfl rfl ?_
                  refine triL_nil ⟨rfl, ?_⟩
                  refine mixN_fix rfl ?_
                  refine o_unw rfl rfl ?_
                  refine triL_nil ⟨rfl, ?_⟩
                  refine mixN_fix rfl ?_
                  refine o_unw rfl rfl ?_
                  refine triL_nil ⟨rfl, ?_⟩
                  refine mixN_free rfl ?_
                  refine o_unw rfl rfl ?_
                  refine triL_nil ⟨rfl, ?_⟩
                  refine mixN_free rfl ?_
                  refine o_unw rfl rfl ?_
                  refine triL_nil ⟨rfl, ?_⟩
                  refine mixN_free rfl ?_
                  refine o_pickF rfl rfl rfl rfl ?_
                  refine triL_nil ⟨rfl, ?_⟩
                  refine mixN_free rfl ?_
                  refine o_move rfl rfl ?_
                  refine triL_nil ⟨rfl, ?_⟩
                  refine mixN_free rfl ?_
                  refine o_unw rfl rfl ?_
                  refine triL_nil ⟨rfl, ?_⟩
                  refine mixN_fix rfl ?_
                  refine o_unw rfl rfl ?_
                  refine triL_nil ⟨rfl, ?_⟩
                  refine mixN_free rfl ?_
                  refine o_unw rfl rfl ?_
                  refine triL_nil ⟨rfl, ?_⟩
                  refine mixN_free rfl ?_
                  refine o_unw rfl rfl ?_
                  refine triL_nil ⟨rfl, ?_⟩
                  refine mixN_fix rfl ?_
                  refine o_unw rfl rfl ?_
                  refine triL_nil ⟨rfl, ?_⟩
                  refine mixN_fix rfl ?_
                  refine o_unw rfl rfl ?_
                  refine triL_nil ⟨rfl, ?_⟩
                  refine mixN_free rfl ?_
                  refine o_unw rfl rfl ?_
                  refine triL_nil ⟨rfl, ?_⟩
                  refine mixN_free rfl ?_
                  refine o_unw rfl rfl ?_
                  refine triL_nil ⟨rfl, ?_⟩
                  refine mixN_fix rfl ?_
                  refine o_unw rfl rfl ?_
                  refine triL_nil ⟨rfl, ?_⟩
                  refine mixN_fix rfl ?_
                  refine o_unw rfl rfl ?_
                  refine triL_nil ⟨rfl, ?_⟩
                  refine mixN_free rfl ?_
                  refine o_unw rfl rfl ?_
                  refine triL_nil ⟨rfl, ?_⟩
                  refine mixN_free rfl ?_
                  refine o_unw rfl rfl ?_
                  refine triL_nil ⟨rfl, ?_⟩
                  refine mixN_fix rfl ?_
                  refine o_unw rfl rfl ?_
                  refine triL_nil ⟨rfl, ?_⟩
                  refine mixN_fix rfl ?_
                  refine o_unw rfl rfl ?_
                  refine triL_nil ⟨rfl, ?_⟩
                  refine mixN_fix rfl ?_
                  refine o_unw rfl rfl ?_
                  refine triL_nil ⟨rfl, ?_⟩
                  refine mixN_free rfl ?_
                  refine o_unw rfl rfl ?_
                  refine triL_nil ⟨rfl, ?_⟩
                  refine mixN_free rfl ?_
                  refine o_pickF rfl rfl rfl rfl ?_
                  refine triL_nil ⟨rfl, ?_⟩
                  refine mixN_free rfl ?_
                  refine o_pickF rfl rfl rfl rfl ?_
                  refine triL_nil ⟨rfl, ?_⟩
                  refine mixN_nil ?_
                  refine thenQ_normal ?_
                  refine tri_cond_false rfl ?_
                  refine tri_skip ?_
                  refine blockQ_normal ?_
                  refine thenQ_normal ?_
                  refine tri_slots [(5, _), (7, _), (8, _), (10, _), (18, _)] (.cons rfl (.cons rfl (.cons rfl (.cons rfl (.cons rfl (.nil _)))))) ?_
                  refine tri_region ?_
                  refine o_move rfl rfl ?_
                  refine o_addN rfl rfl rfl (by omega) ?_
                  refine o_assign rfl rfl ?_
                  refine triL_nil ?_
                  refine thenQ_normal ?_
                  exact ⟨⟨p.k + 1, { p.e with r := inc p.e.r }⟩, (.cons rfl (.cons rfl (.cons rfl (.cons rfl (.cons rfl (.nil _)))))), (fun w1 hw => hw.sublist (List.Sublist.cons_cons _ (List.Sublist.cons_cons _ (List.Sublist.cons_cons _ (List.Sublist.cons _ (List.Sublist.refl _)))))), ⟨by simp only; omega, hkr2.2⟩, (by simp only; omega)⟩
            · skip
              refine tri_exit ?_
              refine thenQ_exit ?_
              refine thenQ_exit ?_
              refine blockQ_here ?_
              refine thenQ_normal ?_
              refine tri_seq ?_
              refine tri_slots [] (.nil _) ?_
              refine tri_region ?_
              refine o_callP (first := []) (cap := []) rfl rfl rfl Try.call11 (fun w1 h1 => aliveL w1) ?_
              refine o_assign rfl rfl ?_
              refine triL_nil ?_
              refine thenQ_normal ?_
              refine tri_ret ?_
              refine end1 rfl rfl ?_
              exact fun w1 hw1 => ⟨rfl, hw1.chg⟩

end Go.Proofs.Ytpnccaddbjbfhaa
