/- the document's functions, walked: print -/
import Derived.Test.YtgogkkkacpacgaaDoorWalks6
namespace Go.Proofs.YtgogkkkacpacgaaDoor
open Go.WK Go.RowKit 



theorem printR (v : Val) (w : World) (f : fit v) : Calls Tryd.prog 42 #[aggV v] w (Pure w (.tuple #[.string (B (prV v).1), .int .i64 (prV v).2])) := by
  refine calls_tri (args := [aggV v]) (lent := []) (H := []) Tryd.func42 rfl Tryd.ntmps42 rfl (Sat.start _ _ _ _) ?_
  refine (show Tri _ [(0, _)] _ _ _ from ?_)
  have fs := f.2
  refine tri_seq ?_
  refine tri_region ?_
  refine o_box (Val.cs _) rfl rfl rfl (fun b1 => ?_)
  refine o_assign rfl rfl ?_
  refine o_assign rfl rfl ?_
  refine triL_nil ?_
  refine thenQ_normal ?_
  refine tri_seq ?_
  refine tri_seq ?_
  refine tri_region ?_
  refine o_loadBV agg23 sz23 (by repeat (first | exact Nth.z | apply Nth.s)) rfl rfl ?_
  refine o_callP (first := []) (cap := []) rfl rfl rfl Tryd.call15 (fun w_ hw_ => mayR _ w_ (by assumption)) ?_
  refine o_not rfl rfl ?_
  refine triL_nil ?_
  refine thenQ_normal ?_
  refine tri_cond rfl (fun h0 => ?_) (fun h0 => ?_)
  · skip
    have h0 : ¬ may v = true := by simpa using h0
    refine tri_seq ?_
    refine tri_slots [] (.nil _) ?_
    refine tri_region ?_
    refine o_assign rfl rfl ?_
    refine o_assign rfl rfl ?_
    refine triL_nil ?_
    refine thenQ_normal ?_
    refine tri_ret ?_
    refine thenQ_ret ?_
    refine end2 rfl rfl rfl ?_
    exact fun w1 hw1 => ⟨by have e : prV v = ([], 5) := (by rw [prV, if_neg h0]); rw [e] <;> rfl, hw1.chg⟩
  · skip
    have h0 : may v = true := by simpa using h0
    refine tri_skip ?_
    refine thenQ_normal ?_
    refine tri_seq ?_
    refine tri_seq ?_
    refine tri_slots [(1, _)] (.cons rfl (.nil _)) ?_
    refine tri_region ?_
    refine o_field fo23_0 rfl rfl ?_
    refine o_load agg3 (by repeat (first | exact Nth.z | apply Nth.s)) rfl rfl rfl ?_
    refine o_eqlI rfl rfl rfl ?_
    refine triL_nil ?_
    refine thenQ_normal ?_
    refine tri_if rfl (fun k0 => ?_) (fun k0 => ?_)
    · skip
      refine tri_seq ?_
      refine tri_slots [] (.nil _) ?_
      refine tri_region ?_
      refine o_assign rfl rfl ?_
      refine o_assign rfl rfl ?_
      refine triL_nil ?_
      refine thenQ_normal ?_
      refine tri_ret ?_
      refine thenQ_ret ?_
      refine end2 rfl rfl rfl ?_
      exact fun w1 hw1 => ⟨by have e : prV v = ([110, 117, 108, 108], 0) := (by rw [prV, if_pos h0, if_neg (by omega), if_neg (by omega), if_neg (by omega)]); rw [e] <;> rfl, hw1.chg⟩
    · skip
      refine tri_skip ?_
      refine thenQ_normal ?_
      refine tri_seq ?_
      refine tri_seq ?_
      refine tri_region ?_
      refine o_field fo23_0 rfl rfl ?_
      refine o_load agg3 (by repeat (first | exact Nth.z | apply Nth.s)) rfl rfl rfl ?_
      refine o_eqlI rfl rfl rfl ?_
      refine o_move rfl rfl ?_
      refine' triL_and [_, _, _] [(1, _)] (dj := 15) (dr := 18) rfl rfl (fun g1 => ?_) ⟨_, rfl, rfl, rfl, (.cons rfl (.nil _))⟩ rfl ?_
      rotate_left
      · skip
        refine o_field fo23_1 rfl rfl ?_
        refine o_load agg2 (by repeat (first | exact Nth.z | apply Nth.s)) rfl rfl rfl ?_
        refine o_eqlI rfl rfl rfl ?_
        exact triL_nil (Piece.mk rfl rfl (.cons rfl (.nil _)) (fun _ h => h))
      refine triL_nil ?_
      refine thenQ_normal ?_
      refine tri_cond rfl (fun k2 => ?_) (fun k2 => ?_)
      · skip
        simp only [Bool.and_eq_true, decide_eq_true_eq] at k2
        refine tri_seq ?_
        refine tri_region ?_
        refine o_assign rfl rfl ?_
        refine o_assign rfl rfl ?_
        refine triL_nil ?_
        refine thenQ_normal ?_
        refine tri_ret ?_
        refine thenQ_ret ?_
        refine end2 rfl rfl rfl ?_
        exact fun w1 hw1 => ⟨by have e : prV v = ([102, 97, 108, 115, 101], 0) := (by rw [prV, if_pos h0, if_neg (by omega), if_neg (by omega), if_pos k2.1, if_neg (by omega)]); rw [e] <;> rfl, hw1.chg⟩
      · skip
        simp only [Bool.and_eq_false_iff, decide_eq_false_iff_not] at k2
        refine tri_skip ?_
        refine thenQ_normal ?_
        refine tri_seq ?_
        refine tri_seq ?_
        refine tri_region ?_
        refine o_field fo23_0 rfl rfl ?_
        refine o_load agg3 (by repeat (first | exact Nth.z | apply Nth.s)) rfl rfl rfl ?_
        refine o_eqlI rfl rfl rfl ?_
        refine triL_nil ?_
        refine thenQ_normal ?_
        refine tri_if rfl (fun k3 => ?_) (fun k3 => ?_)
        · skip
          have hb := may_bool h0 k3
          have hb1 : v.n = 1 := by omega
          refine tri_seq ?_
          refine tri_slots [] (.nil _) ?_
          refine tri_region ?_
          refine o_assign rfl rfl ?_
          refine o_assign rfl rfl ?_
          refine triL_nil ?_
          refine thenQ_normal ?_
          refine tri_ret ?_
          refine thenQ_ret ?_
          refine end2 rfl rfl rfl ?_
          exact fun w1 hw1 => ⟨by have e : prV v = ([116, 114, 117, 101], 0) := (by rw [prV, if_pos h0, if_neg (by omega), if_neg (by omega), if_pos k3, if_pos hb1]); rw [e] <;> rfl, hw1.chg⟩
        · skip
          refine tri_skip ?_
          refine thenQ_normal ?_
          refine tri_seq ?_
          refine tri_seq ?_
          refine tri_slots [(1, _)] (.cons rfl (.nil _)) ?_
          refine tri_region ?_
          refine o_field fo23_0 rfl rfl ?_
          refine o_load agg3 (by repeat (first | exact Nth.z | apply Nth.s)) rfl rfl rfl ?_
          refine o_eqlI rfl rfl rfl ?_
          refine triL_nil ?_
          refine thenQ_normal ?_
          refine tri_if rfl (fun k1 => ?_) (fun k1 => ?_)
          · skip
            refine tri_seq ?_
            refine tri_region ?_
            refine o_field fo23_1 rfl rfl ?_
            refine o_load agg2 (by repeat (first | exact Nth.z | apply Nth.s)) rfl rfl rfl ?_
            refine o_callP (first := []) (cap := []) rfl rfl rfl Tryd.call71 (fun w_ hw_ => digitsR _ w_ (nIn f)) ?_
            refine o_assign rfl rfl ?_
            refine o_assign rfl rfl ?_
            refine triL_nil ?_
            refine thenQ_normal ?_
            refine tri_ret ?_
            refine thenQ_ret ?_
            refine end2 rfl rfl rfl ?_
            exact fun w1 hw1 => ⟨by have e : prV v = (Lib.itoa v.n, 0) := (by rw [prV, if_pos h0, if_pos k1]); rw [e] <;> rfl, hw1.chg⟩
          · skip
            have kt : v.k = 2 := by have := may_k h0; omega
            have ht := may_text h0 kt
            refine tri_skip ?_
            refine thenQ_normal ?_
            refine tri_seq ?_
            refine tri_region ?_
            refine o_lit1 Tryd.underlying59 zs5 rfl rfl rfl rfl rfl (by decide) (by decide) (fun b29 => ?_)
            refine o_assign rfl rfl ?_
            refine triL_nil ?_
            refine thenQ_normal ?_
            refine tri_seq ?_
            refine tri_seq ?_
            refine tri_slots [(4, _), (1, _)] (.cons rfl (.cons rfl (.nil _))) ?_
            refine tri_region ?_
            refine o_assign rfl rfl ?_
            refine triL_nil ?_
            refine thenQ_normal ?_
            refine tri_block ?_
            refine tri_loop (ι := Nat × Option Addr × Nat) (F := fun i => [(1, .pointer (some ⟨b1, 0, none⟩)), (4, .slice i.2.1 (1 + (dbl (v.s.take i.1)).length) i.2.2), (5, .int .i64 ((i.1 : Nat) : Int))]) (HH := fun i => [row (.slice i.2.1 (1 + (dbl (v.s.take i.1)).length) i.2.2) 5 1 (1 + (dbl (v.s.take i.1)).length) (bytesV (39 :: dbl (v.s.take i.1))), box b1 23 v.cs]) (Pu := fun i => i.1 ≤ v.s.length) (μ := fun i => v.s.length - i.1) ((0, some ⟨b29, 0, none⟩, 1)) (.cons rfl (.cons rfl (.cons rfl (.nil _)))) (fun _ h => h) (Nat.zero_le _) (fun i hi => ?_)
            have hd := dbl_len (v.s.take i.1)
            have hd2 : (v.s.take i.1).length ≤ i.1 := by simp; omega
            refine tri_seq ?_
            refine tri_seq ?_
            refine tri_region ?_
            refine o_move rfl rfl ?_
            refine o_field fo23_2 rfl rfl ?_
            refine o_load agg9 (by repeat (first | exact Nth.z | apply Nth.s)) rfl rfl rfl ?_
            refine o_lenB Tryd.underlying9 rfl rfl ?_
            refine o_lss rfl rfl rfl ?_
            refine triL_nil ?_
            refine thenQ_normal ?_
            refine tri_if rfl (fun h5 => ?_) (fun h5 => ?_)
            · skip
              refine tri_skip ?_
              refine thenQ_normal ?_
              refine tri_join (ι := Option Addr × Nat) (fun q => [(1, .pointer (some ⟨b1, 0, none⟩)), (4, .slice q.1 (1 + (dbl (v.s.take (i.1 + 1))).length) q.2), (5, .int .i64 ((i.1 : Nat) : Int))]) (fun q => [row (.slice q.1 (1 + (dbl (v.s.take (i.1 + 1))).length) q.2) 5 1 (1 + (dbl (v.s.take (i.1 + 1))).length) (bytesV (39 :: dbl (v.s.take (i.1 + 1)))), box b1 23 v.cs]) (fun q => True) ?_ (fun q hj => ?_)
              · skip
                refine tri_block ?_
                refine tri_seq ?_
                refine tri_slots [(1, _), (4, _), (5, _)] (.cons rfl (.cons rfl (.cons rfl (.nil _)))) ?_
                refine tri_region ?_
                refine o_move rfl rfl ?_
                refine o_field fo23_2 rfl rfl ?_
                refine o_load agg9 (by repeat (first | exact Nth.z | apply Nth.s)) rfl rfl rfl ?_
                refine o_move rfl rfl ?_
                refine o_idxB Tryd.underlying9 rfl rfl rfl (by omega) (by omega) ?_
                refine o_lit1 Tryd.underlying59 zs5 rfl rfl rfl rfl rfl (by decide) (by decide) (fun b42 => ?_)
                refine o_append Tryd.underlying59 zsb5 rfl (by decide) (by repeat (first | exact Nth.z | apply Nth.s)) rfl rfl rfl (news := bytesV [v.s.getD i.1 0]) (RdS.row .z) rfl (bytesV_one _) (by unfold maxLen; omega) (by omega) (fun A43 c43 => ?_)
                refine o_assign rfl rfl ?_
                refine triL_nil ?_
                refine thenQ_normal ?_
                refine tri_seq ?_
                refine tri_slots [(4, _), (1, _), (5, _)] (.cons rfl (.cons rfl (.cons rfl (.nil _)))) ?_
                refine tri_region ?_
                refine o_field fo23_2 rfl rfl ?_
                refine o_load agg9 (by repeat (first | exact Nth.z | apply Nth.s)) rfl rfl rfl ?_
                refine o_move rfl rfl ?_
                refine o_idxB Tryd.underlying9 rfl rfl rfl (by omega) (by omega) ?_
                refine o_eqlU8 _ 39 rfl rfl rfl ?_
                refine triL_nil ?_
                refine thenQ_normal ?_
                refine tri_if rfl (fun h6 => ?_) (fun h6 => ?_)
                · skip
                  have h6 : v.s.getD i.1 0 = 39 := h6
                  refine tri_slots [(4, _), (1, _), (5, _)] (.cons rfl (.cons rfl (.cons rfl (.nil _)))) ?_
                  refine tri_region ?_
                  refine o_move rfl rfl ?_
                  refine o_lit1 Tryd.underlying59 zs5 rfl rfl rfl rfl rfl (by decide) (by decide) (fun b50 => ?_)
                  refine o_append Tryd.underlying59 zsb5 rfl (by decide) (by repeat (first | exact Nth.z | apply Nth.s)) rfl rfl rfl (news := bytesV [39]) (RdS.row .z) rfl (bytesV_one _) (by unfold maxLen; omega) (by omega) (fun A51 c51 => ?_)
                  refine o_assign rfl rfl ?_
                  refine triL_nil ?_
                  refine blockQ_normal ?_
                  refine thenQ_normal ?_
                  have es := dbl_snoc v.s i.1 (by omega)
                  rw [if_pos h6] at es
                  have el : (dbl (v.s.take (i.1 + 1))).length = (dbl (v.s.take i.1)).length + 2 := by rw [es]; simp
                  have ec : bytesV (39 :: dbl (v.s.take (i.1 + 1))) = bytesV (39 :: dbl (v.s.take i.1)) ++ bytesV [v.s.getD i.1 0] ++ bytesV [39] := by rw [es, h6]; simp [bytesV]
                  exact ⟨(A51, c51), (.cons rfl (.cons (congrArg (fun k : Nat => some (Value.slice A51 k c51)) (by rw [el]; omega)) (.cons rfl (.nil _)))), (fun w1 hw1 => by simp only [el, ec]; exact hw1.tail.tail), trivial⟩
                · skip
                  have h6 : ¬ v.s.getD i.1 0 = 39 := h6
                  refine tri_skip ?_
                  refine blockQ_normal ?_
                  refine thenQ_normal ?_
                  have es := dbl_snoc v.s i.1 (by omega)
                  rw [if_neg h6] at es
                  have el : (dbl (v.s.take (i.1 + 1))).length = (dbl (v.s.take i.1)).length + 1 := by rw [es]; simp
                  have ec : bytesV (39 :: dbl (v.s.take (i.1 + 1))) = bytesV (39 :: dbl (v.s.take i.1)) ++ bytesV [v.s.getD i.1 0] := by rw [es]; simp [bytesV]
                  exact ⟨(A43, c43), (.cons rfl (.cons (congrArg (fun k : Nat => some (Value.slice A43 k c43)) (by rw [el]; omega)) (.cons rfl (.nil _)))), (fun w1 hw1 => by simp only [el, ec]; exact hw1.tail), trivial⟩
              refine tri_region ?_
              refine o_move rfl rfl ?_
              refine o_addN rfl rfl rfl (by omega) ?_
              refine o_assign rfl rfl ?_
              refine triL_nil ?_
              refine thenQ_normal ?_
              exact ⟨(i.1 + 1, q.1, q.2), (.cons rfl (.cons rfl (.cons rfl (.nil _)))), fun _ h => h, by simp only; omega, (by simp only; omega)⟩
            · skip
              have hz : v.s.take i.1 = v.s := List.take_of_length_le (by omega)
              refine tri_exit ?_
              refine thenQ_exit ?_
              refine thenQ_exit ?_
              refine blockQ_here ?_
              refine thenQ_normal ?_
              refine tri_seq ?_
              refine tri_slots [(4, _)] (.cons rfl (.nil _)) ?_
              refine tri_region ?_
              refine o_move rfl rfl ?_
              refine o_lit1 Tryd.underlying59 zs5 rfl rfl rfl rfl rfl (by decide) (by decide) (fun b53 => ?_)
              refine o_append Tryd.underlying59 zsb5 rfl (by decide) (by repeat (first | exact Nth.z | apply Nth.s)) rfl rfl rfl (news := bytesV [39]) (RdS.row .z) rfl (bytesV_one _) (by unfold maxLen; omega) (by omega) (fun A54 c54 => ?_)
              refine o_toText (l := 39 :: (dbl (v.s.take i.1) ++ [39])) Tryd.underlying59 Tryd.underlying5 Tryd.underlying9 rfl rfl (by rw [show bytesV (39 :: (dbl (v.s.take i.1) ++ [39])) = bytesV (39 :: dbl (v.s.take i.1)) ++ bytesV [39] by simp [bytesV]]; exact RdS.row (.s .z)) (by simp; omega) ?_
              refine o_assign rfl rfl ?_
              refine o_assign rfl rfl ?_
              refine triL_nil ?_
              refine thenQ_normal ?_
              refine tri_ret ?_
              refine end2 rfl rfl rfl ?_
              exact fun w1 hw1 => ⟨by have e : prV v = (39 :: (dbl (v.s.take i.1) ++ [39]), 0) := (by rw [prV, if_pos h0, if_neg k1, if_pos kt, hz]); rw [e] <;> rfl, hw1.chg⟩

end Go.Proofs.YtgogkkkacpacgaaDoor
