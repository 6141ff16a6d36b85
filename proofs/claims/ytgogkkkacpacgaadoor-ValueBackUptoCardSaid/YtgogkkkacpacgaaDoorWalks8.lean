/- the document's functions, walked: read -/
import Derived.Test.YtgogkkkacpacgaaDoorWalks7
namespace Go.Proofs.YtgogkkkacpacgaaDoor
open Go.WK Go.RowKit 



theorem rdV_txt {s : List UInt8} (h0 : ¬ s = [110, 117, 108, 108]) (h1 : ¬ (s = [102, 97, 108, 115, 101] ∨ s = [116, 114, 117, 101])) (hn : numR s = none) : rdV s = match txtR s with
    | some t => if t.length ≤ 64 then (⟨2, 0, t⟩, 0) else (Val.zero, 5)
    | none => (Val.zero, 5) := by
  unfold rdV
  rw [if_neg h0, if_neg h1, hn]
  rfl
theorem rdV_num {s : List UInt8} {n : Int} (h0 : ¬ s = [110, 117, 108, 108]) (h1 : ¬ (s = [102, 97, 108, 115, 101] ∨ s = [116, 114, 117, 101])) (hn : numR s = some n) : rdV s = (⟨1, n, []⟩, 0) := by
  unfold rdV
  rw [if_neg h0, if_neg h1, hn]
theorem txt_no {s : List UInt8} (h : s.length < 2 ∨ s.getD 0 0 ≠ 39 ∨ s.getD (s.length - 1) 0 ≠ 39) : txtR s = none := if_pos h
theorem txt_yes {s : List UInt8} (h : ¬ (s.length < 2 ∨ s.getD 0 0 ≠ 39 ∨ s.getD (s.length - 1) 0 ≠ 39)) : txtR s = undO ((s.drop 1).take (s.length - 2)) := if_neg h
theorem map_cons_app (o : Option (List UInt8)) (l : List UInt8) (c : UInt8) : (o.map (c :: ·)).map (l ++ ·) = o.map ((l ++ [c]) ++ ·) := by
  cases o <;> simp

theorem readR (s : List UInt8) (w : World) (hs : s.length ≤ 140737488355328) : Calls Tryd.prog 44 #[.string (B s)] w (Pure w (resV (rdV s))) := by
  refine calls_tri (args := [.string (B s)]) (lent := []) (H := []) Tryd.func44 rfl Tryd.ntmps44 rfl (Sat.start _ _ _ _) ?_
  refine (show Tri _ [(0, _)] _ _ _ from ?_)
  refine tri_seq ?_
  refine tri_region ?_
  refine o_alloc (Val.cs Val.zero) rfl zero23 rfl (fun b2 => ?_)
  refine o_assign rfl rfl ?_
  refine triL_nil ?_
  refine thenQ_normal ?_
  refine tri_seq ?_
  refine tri_seq ?_
  refine tri_region ?_
  refine o_move rfl rfl ?_
  refine o_eqlT rfl rfl rfl ?_
  refine triL_nil ?_
  refine thenQ_normal ?_
  refine tri_if rfl (fun e0 => ?_) (fun e0 => ?_)
  · skip
    refine tri_seq ?_
    refine tri_slots [(2, _)] (.cons rfl (.nil _)) ?_
    refine tri_region ?_
    refine o_build bval23 rfl rfl ?_
    refine o_storeBV sz23 (by repeat (first | exact Nth.z | apply Nth.s)) rfl rfl rfl ?_
    refine o_assign rfl rfl ?_
    refine triL_nil ?_
    refine thenQ_normal ?_
    refine tri_ret ?_
    refine thenQ_ret ?_
    refine endC2 rfl agg23 sz23 (by repeat (first | exact Nth.z | apply Nth.s)) rfl rfl rfl ?_
    exact fun w1 hw1 => ⟨by have e : rdV s = (Val.zero, 0) := (by rw [rdV, if_pos e0]); rw [e] <;> rfl, hw1.chg⟩
  · skip
    refine tri_skip ?_
    refine thenQ_normal ?_
    refine tri_seq ?_
    refine tri_seq ?_
    refine tri_region ?_
    refine o_move rfl rfl ?_
    refine o_eqlT rfl rfl rfl ?_
    refine o_move rfl rfl ?_
    refine' triL_or [_, _] [(2, _), (0, _)] (dj := 13) (dr := 15) rfl rfl (fun g1 => ?_) ⟨_, rfl, rfl, rfl, (.cons rfl (.cons rfl (.nil _)))⟩ rfl ?_
    rotate_left
    · skip
      refine o_move rfl rfl ?_
      refine o_eqlT rfl rfl rfl ?_
      exact triL_nil (Piece.mk rfl rfl (.cons rfl (.cons rfl (.nil _))) (fun _ h => h))
    refine triL_nil ?_
    refine thenQ_normal ?_
    refine tri_cond rfl (fun e1 => ?_) (fun e1 => ?_)
    · skip
      simp only [Bool.or_eq_true, decide_eq_true_eq] at e1
      refine tri_seq ?_
      refine tri_region ?_
      refine o_move rfl rfl ?_
      refine o_eqlT rfl rfl rfl ?_
      refine o_callP (first := []) (cap := []) rfl rfl rfl Tryd.call62 (fun w_ hw_ => yesR _ w_) ?_
      refine o_storeBV sz23 (by repeat (first | exact Nth.z | apply Nth.s)) rfl rfl rfl ?_
      refine o_assign rfl rfl ?_
      refine triL_nil ?_
      refine thenQ_normal ?_
      refine tri_ret ?_
      refine thenQ_ret ?_
      refine endC2 rfl agg23 sz23 (by repeat (first | exact Nth.z | apply Nth.s)) rfl rfl rfl ?_
      exact fun w1 hw1 => ⟨by have e : rdV s = (truth (decide (s = [116, 114, 117, 101])), 0) := (by rw [rdV, if_neg e0, if_pos e1]); rw [e] <;> rfl, hw1.chg⟩
    · skip
      simp only [Bool.or_eq_false_iff, decide_eq_false_iff_not] at e1
      refine tri_skip ?_
      refine thenQ_normal ?_
      refine tri_seq ?_
      refine tri_region ?_
      refine o_move rfl rfl ?_
      refine o_callP (first := []) (cap := []) rfl rfl rfl Tryd.call73 (fun w_ hw_ => numberR _ w_ (by assumption)) ?_
      refine o_move rfl rfl ?_
      refine o_extract rfl rfl rfl ?_
      refine o_extract rfl rfl rfl ?_
      refine o_assign rfl rfl ?_
      refine o_assign rfl rfl ?_
      refine triL_nil ?_
      refine thenQ_normal ?_
      refine tri_seq ?_
      refine tri_seq ?_
      refine tri_slots [(5, _), (4, _), (2, _), (0, _)] (.cons rfl (.cons rfl (.cons rfl (.cons rfl (.nil _))))) ?_
      refine tri_region ?_
      refine o_move rfl rfl ?_
      refine triL_nil ?_
      refine thenQ_normal ?_
      refine tri_cond rfl (fun h2 => ?_) (fun h2 => ?_)
      · skip
        have hn := numF_ok h2
        refine tri_seq ?_
        refine tri_region ?_
        refine o_move rfl rfl ?_
        refine o_build (bval23_0_1 _ _) rfl rfl ?_
        refine o_storeBV sz23 (by repeat (first | exact Nth.z | apply Nth.s)) rfl rfl rfl ?_
        refine o_assign rfl rfl ?_
        refine triL_nil ?_
        refine thenQ_normal ?_
        refine tri_ret ?_
        refine thenQ_ret ?_
        refine endC2 rfl agg23 sz23 (by repeat (first | exact Nth.z | apply Nth.s)) rfl rfl rfl ?_
        exact fun w1 hw1 => ⟨by have e : rdV s = (⟨1, (numF s).1, []⟩, 0) := (by exact rdV_num e0 (fun e => e.elim e1.1 e1.2) hn); rw [e] <;> rfl, hw1.chg⟩
      · skip
        have hn := numF_no (by rw [h2]; simp)
        have e1 : ¬ (s = [102, 97, 108, 115, 101] ∨ s = [116, 114, 117, 101]) := fun e => e.elim e1.1 e1.2
        refine tri_skip ?_
        refine thenQ_normal ?_
        refine tri_seq ?_
        refine tri_seq ?_
        refine tri_region ?_
        refine o_move rfl rfl ?_
        refine o_lenB Tryd.underlying9 rfl rfl ?_
        refine o_lss rfl rfl rfl ?_
        refine o_move rfl rfl ?_
        refine' triL_or [_, _, _] [(2, _), (0, _)] (dj := 31) (dr := 34) rfl rfl (fun gA => ?_) ⟨_, rfl, rfl, rfl, (.cons rfl (.cons rfl (.nil _)))⟩ rfl ?_
        rotate_left
        · skip
          have gA := of_decide_eq_false gA
          refine o_move rfl rfl ?_
          refine o_idxB Tryd.underlying9 rfl rfl rfl (by omega) (by omega) ?_
          refine o_neqU8 _ 39 rfl rfl rfl ?_
          exact triL_nil (Piece.mk rfl rfl (.cons rfl (.cons rfl (.nil _))) (fun _ h => h))
        refine o_move rfl rfl ?_
        refine' triL_or [_, _, _, _, _, _] [(2, _), (0, _)] (dj := 36) (dr := 42) rfl rfl (fun gB => ?_) ⟨_, rfl, rfl, rfl, (.cons rfl (.cons rfl (.nil _)))⟩ rfl ?_
        rotate_left
        · skip
          simp only [Bool.or_eq_false_iff, decide_eq_false_iff_not] at gB
          refine o_move rfl rfl ?_
          refine o_move rfl rfl ?_
          refine o_lenB Tryd.underlying9 rfl rfl ?_
          refine o_subN rfl rfl rfl (by omega) ?_
          refine o_idxB Tryd.underlying9 rfl rfl rfl (by omega) (by omega) ?_
          refine o_neqU8 _ 39 rfl rfl rfl ?_
          exact triL_nil (Piece.mk rfl rfl (.cons rfl (.cons rfl (.nil _))) (fun _ h => h))
        refine triL_nil ?_
        refine thenQ_normal ?_
        refine tri_cond rfl (fun h3 => ?_) (fun h3 => ?_)
        · skip
          simp only [Bool.or_eq_true, decide_eq_true_eq] at h3
          have ht : txtR s = none := txt_no (by rcases h3 with (h | h) | h; exact .inl (by omega); exact .inr (.inl h); refine .inr (.inr ?_); rw [show ((s.length : Int) - 1).toNat = s.length - 1 by omega] at h; exact h)
          refine tri_seq ?_
          refine tri_region ?_
          refine o_build bval23 rfl rfl ?_
          refine o_storeBV sz23 (by repeat (first | exact Nth.z | apply Nth.s)) rfl rfl rfl ?_
          refine o_assign rfl rfl ?_
          refine triL_nil ?_
          refine thenQ_normal ?_
          refine tri_ret ?_
          refine thenQ_ret ?_
          refine endC2 rfl agg23 sz23 (by repeat (first | exact Nth.z | apply Nth.s)) rfl rfl rfl ?_
          exact fun w1 hw1 => ⟨by have e : rdV s = (Val.zero, 5) := (by rw [rdV_txt e0 e1 hn, ht]); rw [e] <;> rfl, hw1.chg⟩
        · skip
          simp only [Bool.or_eq_false_iff, decide_eq_false_iff_not] at h3
          have hl2 : 2 ≤ s.length := by omega
          have ht : txtR s = undO ((s.drop 1).take (s.length - 2)) := txt_yes (fun e => by rcases e with h | h | h; omega; exact h3.1.2 h; exact h3.2 (by rw [show ((s.length : Int) - 1).toNat = s.length - 1 by omega]; exact h))
          refine tri_skip ?_
          refine thenQ_normal ?_
          refine tri_seq ?_
          refine tri_region ?_
          refine o_assign rfl rfl ?_
          refine triL_nil ?_
          refine thenQ_normal ?_
          refine tri_seq ?_
          refine tri_seq ?_
          refine tri_region ?_
          refine o_assign rfl rfl ?_
          refine triL_nil ?_
          refine thenQ_normal ?_
          refine tri_block ?_
          refine tri_loop (ι := Nat × List UInt8 × Option Addr × Nat) (F := fun i => [(0, .string (B s)), (2, .pointer (some ⟨b2, 0, none⟩)), (6, .slice i.2.2.1 i.2.1.length i.2.2.2), (7, .int .i64 ((i.1 : Nat) : Int))]) (HH := fun i => [row (.slice i.2.2.1 i.2.1.length i.2.2.2) 5 1 i.2.1.length (bytesV i.2.1), box b2 23 Val.zero.cs]) (Pu := fun i => 1 ≤ i.1 ∧ i.1 ≤ s.length - 1 ∧ i.2.1.length ≤ i.1 ∧ undO ((s.drop 1).take (s.length - 2)) = (undO (((s.drop 1).take (s.length - 2)).drop (i.1 - 1))).map (i.2.1 ++ ·)) (μ := fun i => s.length - i.1) ((1, [], none, 0)) (.cons rfl (.cons rfl (.cons rfl (.cons rfl (.nil _))))) (fun _ h => h.nilRow _ _) (⟨Nat.le_refl _, by simp only; omega, by simp, by simp⟩) (fun i hi => ?_)
          refine tri_seq ?_
          refine tri_seq ?_
          refine tri_region ?_
          refine o_move rfl rfl ?_
          refine o_move rfl rfl ?_
          refine o_lenB Tryd.underlying9 rfl rfl ?_
          refine o_subN rfl rfl rfl (by omega) ?_
          refine o_lss rfl rfl rfl ?_
          refine triL_nil ?_
          refine thenQ_normal ?_
          refine tri_if rfl (fun h4 => ?_) (fun h4 => ?_)
          · skip
            have hj : i.1 - 1 < ((s.drop 1).take (s.length - 2)).length := by rw [mid_len]; omega
            have hget : ((s.drop 1).take (s.length - 2)).getD (i.1 - 1) 0 = s.getD i.1 0 := by rw [mid_get _ _ (by omega), show i.1 - 1 + 1 = i.1 by omega]
            refine tri_skip ?_
            refine thenQ_normal ?_
            refine tri_seq ?_
            refine tri_block ?_
            refine tri_join (ι := Nat) (fun q => [(0, .string (B s)), (2, .pointer (some ⟨b2, 0, none⟩)), (6, .slice i.2.2.1 i.2.1.length i.2.2.2), (7, .int .i64 ((q : Nat) : Int))]) (fun q => [row (.slice i.2.2.1 i.2.1.length i.2.2.2) 5 1 i.2.1.length (bytesV i.2.1), box b2 23 Val.zero.cs]) (fun q => i.1 ≤ q ∧ q < s.length - 1 ∧ undO (((s.drop 1).take (s.length - 2)).drop (i.1 - 1)) = (undO (((s.drop 1).take (s.length - 2)).drop q)).map (s.getD q 0 :: ·)) ?_ (fun q hj => ?_)
            · skip
              refine tri_seq ?_
              refine tri_slots [(0, _), (2, _), (6, _), (7, _)] (.cons rfl (.cons rfl (.cons rfl (.cons rfl (.nil _))))) ?_
              refine tri_region ?_
              refine o_move rfl rfl ?_
              refine o_move rfl rfl ?_
              refine o_idxB Tryd.underlying9 rfl rfl rfl (by omega) (by omega) ?_
              refine o_eqlU8 _ 39 rfl rfl rfl ?_
              refine triL_nil ?_
              refine thenQ_normal ?_
              refine tri_if rfl (fun h5 => ?_) (fun h5 => ?_)
              · skip
                have h5 : s.getD i.1 0 = 39 := h5
                refine tri_seq ?_
                refine tri_seq ?_
                refine tri_slots [(0, _), (2, _), (6, _), (7, _)] (.cons rfl (.cons rfl (.cons rfl (.cons rfl (.nil _))))) ?_
                refine tri_region ?_
                refine o_move rfl rfl ?_
                refine o_addN rfl rfl rfl (by omega) ?_
                refine o_move rfl rfl ?_
                refine o_lenB Tryd.underlying9 rfl rfl ?_
                refine o_subN rfl rfl rfl (by omega) ?_
                refine o_geq rfl rfl rfl ?_
                refine o_move rfl rfl ?_
                refine' triL_or [_, _, _, _, _] [(0, _), (2, _), (6, _), (7, _)] (dj := 62) (dr := 67) rfl rfl (fun gC => ?_) ⟨_, rfl, rfl, rfl, (.cons rfl (.cons rfl (.cons rfl (.cons rfl (.nil _)))))⟩ rfl ?_
                rotate_left
                · skip
                  have gC := of_decide_eq_false gC
                  refine o_move rfl rfl ?_
                  refine o_move rfl rfl ?_
                  refine o_addN rfl rfl rfl (by omega) ?_
                  refine o_idxB Tryd.underlying9 rfl rfl rfl (by omega) (by omega) ?_
                  refine o_neqU8 _ 39 rfl rfl rfl ?_
                  exact triL_nil (Piece.mk rfl rfl (.cons rfl (.cons rfl (.cons rfl (.cons rfl (.nil _))))) (fun _ h => h))
                refine triL_nil ?_
                refine thenQ_normal ?_
                refine tri_cond rfl (fun h6 => ?_) (fun h6 => ?_)
                · skip
                  simp only [Bool.or_eq_true, decide_eq_true_eq] at h6
                  have hbad : undO ((s.drop 1).take (s.length - 2)) = none := by
                    rw [hi.2.2.2]
                    rcases h6 with h | h
                    · rw [undO_last hj (by rw [hget]; exact h5) (by rw [mid_len]; omega)]; rfl
                    · by_cases hx : s.length - 2 ≤ i.1 - 1 + 1
                      · rw [undO_last hj (by rw [hget]; exact h5) (by rw [mid_len]; omega)]; rfl
                      · rw [undO_alone (by rw [mid_len]; omega) (by rw [hget]; exact h5) (by rw [mid_get _ _ (by omega), show i.1 - 1 + 1 + 1 = i.1 + 1 by omega]; rw [show ((i.1 : Int) + 1).toNat = i.1 + 1 by omega] at h; exact h)]; rfl
                  refine tri_seq ?_
                  refine tri_slots [(2, _)] (.cons rfl (.nil _)) ?_
                  refine tri_region ?_
                  refine o_build bval23 rfl rfl ?_
                  refine o_storeBV sz23 (by repeat (first | exact Nth.z | apply Nth.s)) rfl rfl rfl ?_
                  refine o_assign rfl rfl ?_
                  refine triL_nil ?_
                  refine thenQ_normal ?_
                  refine tri_ret ?_
                  refine thenQ_ret ?_
                  refine thenQ_ret ?_
                  refine blockQ_ret ?_
                  refine thenQ_ret ?_
                  refine thenQ_ret ?_
                  refine blockQ_ret ?_
                  refine thenQ_ret ?_
                  refine endC2 rfl agg23 sz23 (by repeat (first | exact Nth.z | apply Nth.s)) rfl rfl rfl ?_
                  exact fun w1 hw1 => ⟨by have e : rdV s = (Val.zero, 5) := (by rw [rdV_txt e0 e1 hn, ht, hbad]); rw [e] <;> rfl, hw1.chg⟩
                · skip
                  simp only [Bool.or_eq_false_iff, decide_eq_false_iff_not] at h6
                  have hn39 : s.getD (i.1 + 1) 0 = 39 := by have h := Decidable.not_not.1 h6.2; rw [show ((i.1 : Int) + 1).toNat = i.1 + 1 by omega] at h; exact h
                  refine tri_skip ?_
                  refine thenQ_normal ?_
                  refine tri_region ?_
                  refine o_move rfl rfl ?_
                  refine o_addN rfl rfl rfl (by omega) ?_
                  refine o_assign rfl rfl ?_
                  refine triL_nil ?_
                  refine thenQ_normal ?_
                  exact ⟨i.1 + 1, (.cons rfl (.cons rfl (.cons rfl (.cons rfl (.nil _))))), fun _ h => h, ⟨by omega, by omega, by rw [undO_twice (by rw [mid_len]; omega) (by rw [hget]; exact h5) (by rw [mid_get _ _ (by omega), show i.1 - 1 + 1 + 1 = i.1 + 1 by omega]; exact hn39), hn39, show i.1 - 1 + 2 = i.1 + 1 by omega]⟩⟩
              · skip
                have h5 : ¬ s.getD i.1 0 = 39 := h5
                refine tri_skip ?_
                refine thenQ_normal ?_
                exact ⟨i.1, (.cons rfl (.cons rfl (.cons rfl (.cons rfl (.nil _))))), fun _ h => h, ⟨by omega, by omega, by rw [undO_drop hj (by rw [hget]; exact h5), hget, show i.1 - 1 + 1 = i.1 by omega]⟩⟩
            have hq := hj
            refine tri_region ?_
            refine o_move rfl rfl ?_
            refine o_move rfl rfl ?_
            refine o_move rfl rfl ?_
            refine o_idxB Tryd.underlying9 rfl rfl rfl (by omega) (by omega) ?_
            refine o_lit1 Tryd.underlying59 zs5 rfl rfl rfl rfl rfl (by decide) (by decide) (fun b76 => ?_)
            refine o_append Tryd.underlying59 zsb5 rfl (by decide) (by repeat (first | exact Nth.z | apply Nth.s)) rfl rfl rfl (news := bytesV [s.getD q 0]) (RdS.row .z) rfl (bytesV_one _) (by unfold maxLen; omega) (by omega) (fun A77 c77 => ?_)
            refine o_assign rfl rfl ?_
            refine triL_nil ?_
            refine blockQ_normal ?_
            refine thenQ_normal ?_
            refine tri_slots [(6, _), (0, _), (2, _), (7, _)] (.cons rfl (.cons rfl (.cons rfl (.cons rfl (.nil _))))) ?_
            refine tri_region ?_
            refine o_move rfl rfl ?_
            refine o_addN rfl rfl rfl (by omega) ?_
            refine o_assign rfl rfl ?_
            refine triL_nil ?_
            refine thenQ_normal ?_
            have hlen : (i.2.1 ++ [s.getD q 0]).length = i.2.1.length + 1 := by simp
            exact ⟨(q + 1, i.2.1 ++ [s.getD q 0], A77, c77), (.cons rfl (.cons rfl (.cons (congrArg (fun k : Nat => some (Value.slice A77 k c77)) hlen.symm) (.cons rfl (.nil _))))), (fun w1 hw1 => by simp only [hlen, bytesV_append]; exact hw1.tail), ⟨by simp only; omega, by simp only; omega, by simp only [hlen]; omega, by rw [hi.2.2.2, hq.2.2, map_cons_app]; rfl⟩, (by simp only; omega)⟩
          · skip
            have hall : undO ((s.drop 1).take (s.length - 2)) = some i.2.1 := by rw [hi.2.2.2, List.drop_eq_nil_of_le (by rw [mid_len]; omega)]; simp [undO]
            refine tri_exit ?_
            refine thenQ_exit ?_
            refine thenQ_exit ?_
            refine blockQ_here ?_
            refine thenQ_normal ?_
            refine tri_seq ?_
            refine tri_seq ?_
            refine tri_slots [(2, _), (6, _)] (.cons rfl (.cons rfl (.nil _))) ?_
            refine tri_region ?_
            refine o_move rfl rfl ?_
            refine o_lenS Tryd.underlying59 rfl rfl ?_
            refine o_gtr rfl rfl rfl ?_
            refine triL_nil ?_
            refine thenQ_normal ?_
            refine tri_if rfl (fun h7 => ?_) (fun h7 => ?_)
            · skip
              refine tri_seq ?_
              refine tri_slots [(2, _)] (.cons rfl (.nil _)) ?_
              refine tri_region ?_
              refine o_build bval23 rfl rfl ?_
              refine o_storeBV sz23 (by repeat (first | exact Nth.z | apply Nth.s)) rfl rfl rfl ?_
              refine o_assign rfl rfl ?_
              refine triL_nil ?_
              refine thenQ_normal ?_
              refine tri_ret ?_
              refine thenQ_ret ?_
              refine endC2 rfl agg23 sz23 (by repeat (first | exact Nth.z | apply Nth.s)) rfl rfl rfl ?_
              exact fun w1 hw1 => ⟨by have e : rdV s = (Val.zero, 5) := (by rw [rdV_txt e0 e1 hn, ht, hall]; exact if_neg (by omega)); rw [e] <;> rfl, hw1.chg⟩
            · skip
              refine tri_skip ?_
              refine thenQ_normal ?_
              refine tri_seq ?_
              refine tri_region ?_
              refine o_move rfl rfl ?_
              refine o_toText Tryd.underlying59 Tryd.underlying5 Tryd.underlying9 rfl rfl (RdS.row .z) rfl ?_
              refine o_build (bval23_0_2 _ _) rfl rfl ?_
              refine o_storeBV sz23 (by repeat (first | exact Nth.z | apply Nth.s)) rfl rfl rfl ?_
              refine o_assign rfl rfl ?_
              refine triL_nil ?_
              refine thenQ_normal ?_
              refine tri_ret ?_
              refine endC2 rfl agg23 sz23 (by repeat (first | exact Nth.z | apply Nth.s)) rfl rfl rfl ?_
              exact fun w1 hw1 => ⟨by have e : rdV s = (⟨2, 0, i.2.1⟩, 0) := (by rw [rdV_txt e0 e1 hn, ht, hall]; exact if_pos (by omega)); rw [e] <;> rfl, hw1.chg⟩

theorem if61 : Tryd.prog.underlying 61 = some (.interface (Tryd.prog.methodsAt 61)) := by kernel_rfl
theorem rd_cand {s : List UInt8} {v : Val} (h0 : ¬ s = [110, 117, 108, 108]) (h1 : ¬ (s = [116, 114, 117, 101] ∨ s = [102, 97, 108, 115, 101])) (hc : candP s = some v) : rdV s = if (prV v).2 = 0 ∧ (prV v).1 = s then (v, 0) else (Val.zero, 5) := by
  rw [← rdP_eq]
  unfold rdP
  rw [if_neg h0, if_neg (fun e => h1 e.symm), hc]
theorem rd_none' {s : List UInt8} (h0 : ¬ s = [110, 117, 108, 108]) (h1 : ¬ (s = [116, 114, 117, 101] ∨ s = [102, 97, 108, 115, 101])) (hc : candP s = none) : rdV s = (Val.zero, 5) := by
  rw [← rdP_eq]
  unfold rdP
  rw [if_neg h0, if_neg (fun e => h1 e.symm), hc]

theorem readK (s : List UInt8) (w : World) (hs : s.length ≤ 4294967280) (hL : LV w) (hE : LE w) : Calls Tryd.prog 43 #[.string (B s)] w (Pure w (resV (rdV s))) := by
  refine calls_tri (args := [.string (B s)]) (lent := []) (H := []) Tryd.func43 rfl Tryd.ntmps43 rfl (Sat.start _ _ _ _) ?_
  refine (show Tri _ [(0, _)] _ _ _ from ?_)
  refine tri_seq ?_
  refine tri_region ?_
  refine o_alloc (Val.cs Val.zero) rfl zero23 rfl (fun b2 => ?_)
  refine o_assign rfl rfl ?_
  refine triL_nil ?_
  refine thenQ_normal ?_
  refine tri_seq ?_
  refine tri_region ?_
  refine o_alloc (Val.cs Val.zero) rfl zero23 rfl (fun b4 => ?_)
  refine triL_nil ?_
  refine thenQ_normal ?_
  refine tri_seq ?_
  refine tri_block ?_
  refine tri_seq ?_
  refine tri_region ?_
  refine o_move rfl rfl ?_
  refine o_eqlT rfl rfl rfl ?_
  refine o_assign rfl rfl ?_
  refine triL_nil ?_
  refine thenQ_normal ?_
  refine tri_if rfl (fun h0 => ?_) (fun h0 => ?_)
  · skip
    refine tri_seq ?_
    refine tri_slots [(4, _), (2, _)] (.cons rfl (.cons rfl (.nil _))) ?_
    refine tri_region ?_
    refine o_loadBV agg23 sz23 (by repeat (first | exact Nth.z | apply Nth.s)) rfl rfl ?_
    refine o_storeBV sz23 (by repeat (first | exact Nth.z | apply Nth.s)) rfl rfl rfl ?_
    refine o_assign rfl rfl ?_
    refine triL_nil ?_
    refine thenQ_normal ?_
    refine tri_ret ?_
    refine blockQ_ret ?_
    refine thenQ_ret ?_
    refine endC2 rfl agg23 sz23 (by repeat (first | exact Nth.z | apply Nth.s)) rfl rfl rfl ?_
    exact fun w1 hw1 => ⟨by have e : rdV s = (Val.zero, 0) := (by rw [rdV, if_pos h0]); rw [e] <;> rfl, hw1.chg⟩
  · skip
    refine tri_seq ?_
    refine tri_slots [(4, _), (2, _), (0, _)] (.cons rfl (.cons rfl (.cons rfl (.nil _)))) ?_
    refine tri_region ?_
    refine o_move rfl rfl ?_
    refine o_eqlT rfl rfl rfl ?_
    refine o_move rfl rfl ?_
    refine' triL_or [_, _] [(4, _), (2, _), (0, _)] (dj := 26) (dr := 28) rfl rfl (fun g1 => ?_) ⟨_, rfl, rfl, rfl, (.cons rfl (.cons rfl (.cons rfl (.nil _))))⟩ rfl ?_
    rotate_left
    · skip
      refine o_move rfl rfl ?_
      refine o_eqlT rfl rfl rfl ?_
      exact triL_nil (Piece.mk rfl rfl (.cons rfl (.cons rfl (.cons rfl (.nil _)))) (fun _ h => h))
    refine o_assign rfl rfl ?_
    refine triL_nil ?_
    refine thenQ_normal ?_
    refine tri_cond rfl (fun e1 => ?_) (fun e1 => ?_)
    · skip
      simp only [Bool.or_eq_true, decide_eq_true_eq] at e1
      refine tri_seq ?_
      refine tri_region ?_
      refine o_move rfl rfl ?_
      refine o_eqlT rfl rfl rfl ?_
      refine o_callP (first := []) (cap := []) rfl rfl rfl Tryd.call63 (fun w_ hw_ => yesK _ w_) ?_
      refine o_storeBV sz23 (by repeat (first | exact Nth.z | apply Nth.s)) rfl rfl rfl ?_
      refine o_assign rfl rfl ?_
      refine triL_nil ?_
      refine thenQ_normal ?_
      refine tri_ret ?_
      refine blockQ_ret ?_
      refine thenQ_ret ?_
      refine endC2 rfl agg23 sz23 (by repeat (first | exact Nth.z | apply Nth.s)) rfl rfl rfl ?_
      exact fun w1 hw1 => ⟨by have e : rdV s = (truth (decide (s = [116, 114, 117, 101])), 0) := (by rw [rdV, if_neg h0, if_pos e1.symm]); rw [e] <;> rfl, hw1.chg⟩
    · skip
      simp only [Bool.or_eq_false_iff, decide_eq_false_iff_not] at e1
      refine tri_seq ?_
      refine tri_region ?_
      refine o_move rfl rfl ?_
      refine o_lenB Tryd.underlying9 rfl rfl ?_
      refine o_geq rfl rfl rfl ?_
      refine o_move rfl rfl ?_
      refine' triL_and [_, _, _] [(4, _), (2, _), (0, _)] (dj := 37) (dr := 40) rfl rfl (fun gA => ?_) ⟨_, rfl, rfl, rfl, (.cons rfl (.cons rfl (.cons rfl (.nil _))))⟩ rfl ?_
      rotate_left
      · skip
        have gA := of_decide_eq_true gA
        refine o_move rfl rfl ?_
        refine o_idxB Tryd.underlying9 rfl rfl rfl (by omega) (by omega) ?_
        refine o_eqlU8 _ 39 rfl rfl rfl ?_
        exact triL_nil (Piece.mk rfl rfl (.cons rfl (.cons rfl (.cons rfl (.nil _)))) (fun _ h => h))
      refine o_assign rfl rfl ?_
      refine triL_nil ?_
      refine thenQ_normal ?_
      refine tri_cond rfl (fun h2 => ?_) (fun h2 => ?_)
      · skip
        have e1 : ¬ (s = [116, 114, 117, 101] ∨ s = [102, 97, 108, 115, 101]) := fun e => e.elim e1.1 e1.2
        have h2 : 2 ≤ s.length ∧ s.getD 0 0 = 39 := by simp only [Bool.and_eq_true, decide_eq_true_eq] at h2; exact ⟨by omega, h2.2⟩
        have hcand : candP s = some ⟨2, 0, und ((s.drop 1).take (s.length - 2))⟩ := if_pos h2
        have hm := und_len ((s.drop 1).take (s.length - 2))
        have hml := mid_len s
        have fv : fit ⟨2, 0, und ((s.drop 1).take (s.length - 2))⟩ := fitS (by omega)
        refine tri_region ?_
        refine o_move rfl rfl ?_
        refine o_move rfl rfl ?_
        refine o_lenB Tryd.underlying9 rfl rfl ?_
        refine o_subN rfl rfl rfl (by omega) ?_
        refine o_sliceB Tryd.underlying9 rfl rfl rfl rfl (by omega) (by omega) (by omega) ?_
        refine triL_num (v' := .string (B ((s.drop 1).take (s.length - 2)))) (congrArg (fun k : Nat => Value.string (B ((s.drop 1).take k))) (by omega)) ?_
        refine o_callP (first := []) (cap := []) rfl rfl rfl Tryd.call70 (fun w1 h1 => lib_und ((s.drop 1).take (s.length - 2)) w1 (by omega) (hL.chg h1.chg)) ?_
        refine o_build (bval23_0_2 _ _) rfl rfl ?_
        refine o_storeBV sz23 (by repeat (first | exact Nth.z | apply Nth.s)) rfl rfl rfl ?_
        refine triL_nil ?_
        refine blockQ_normal ?_
        refine thenQ_normal ?_
        refine tri_seq ?_
        refine tri_slots [(4, _), (2, _), (0, _)] (.cons rfl (.cons rfl (.cons rfl (.nil _)))) ?_
        refine tri_region ?_
        refine o_loadBV agg23 sz23 (by repeat (first | exact Nth.z | apply Nth.s)) rfl rfl ?_
        refine o_callP (first := []) (cap := []) rfl rfl rfl Tryd.call41 (fun w1 h1 => printK _ w1 fv (hL.chg h1.chg)) ?_
        refine o_move rfl rfl ?_
        refine o_extract rfl rfl rfl ?_
        refine o_extract rfl rfl rfl ?_
        refine o_assign rfl rfl ?_
        refine o_assign rfl rfl ?_
        refine triL_nil ?_
        refine thenQ_normal ?_
        refine tri_seq ?_
        refine tri_seq ?_
        refine tri_slots [(8, _), (7, _), (4, _), (2, _), (0, _)] (.cons rfl (.cons rfl (.cons rfl (.cons rfl (.cons rfl (.nil _)))))) ?_
        refine tri_region ?_
        refine o_move rfl rfl ?_
        refine o_neqI rfl rfl rfl ?_
        refine o_move rfl rfl ?_
        refine' triL_or [_, _, _] [(4, _), (2, _)] (dj := 56) (dr := 59) rfl rfl (fun g2 => ?_) ⟨_, rfl, rfl, rfl, (.cons rfl (.cons rfl (.nil _)))⟩ rfl ?_
        rotate_left
        · skip
          refine o_move rfl rfl ?_
          refine o_move rfl rfl ?_
          refine o_neqT rfl rfl rfl ?_
          exact triL_nil (Piece.mk rfl rfl (.cons rfl (.cons rfl (.nil _))) (fun _ h => h))
        refine triL_nil ?_
        refine thenQ_normal ?_
        refine tri_cond rfl (fun h3 => ?_) (fun h3 => ?_)
        · skip
          simp only [Bool.or_eq_true, decide_eq_true_eq] at h3
          refine tri_seq ?_
          refine tri_region ?_
          refine o_build bval23 rfl rfl ?_
          refine o_storeBV sz23 (by repeat (first | exact Nth.z | apply Nth.s)) rfl rfl rfl ?_
          refine o_assign rfl rfl ?_
          refine triL_nil ?_
          refine thenQ_normal ?_
          refine tri_ret ?_
          refine thenQ_ret ?_
          refine endC2 rfl agg23 sz23 (by repeat (first | exact Nth.z | apply Nth.s)) rfl rfl rfl ?_
          exact fun w1 hw1 => ⟨by have e : rdV s = (Val.zero, 5) := (by rw [rd_cand h0 e1 hcand]; exact if_neg (fun e => h3.elim (fun a => a e.1) (fun a => a e.2))); rw [e] <;> rfl, hw1.chg⟩
        · skip
          simp only [Bool.or_eq_false_iff, decide_eq_false_iff_not] at h3
          refine tri_skip ?_
          refine thenQ_normal ?_
          refine tri_seq ?_
          refine tri_region ?_
          refine o_loadBV agg23 sz23 (by repeat (first | exact Nth.z | apply Nth.s)) rfl rfl ?_
          refine o_storeBV sz23 (by repeat (first | exact Nth.z | apply Nth.s)) rfl rfl rfl ?_
          refine o_assign rfl rfl ?_
          refine triL_nil ?_
          refine thenQ_normal ?_
          refine tri_ret ?_
          refine endC2 rfl agg23 sz23 (by repeat (first | exact Nth.z | apply Nth.s)) rfl rfl rfl ?_
          exact fun w1 hw1 => ⟨by have e : rdV s = (⟨2, 0, und ((s.drop 1).take (s.length - 2))⟩, 0) := (by rw [rd_cand h0 e1 hcand]; exact if_pos ⟨Decidable.not_not.1 h3.1, Decidable.not_not.1 h3.2⟩); rw [e] <;> rfl, hw1.chg⟩
      · skip
        have e1 : ¬ (s = [116, 114, 117, 101] ∨ s = [102, 97, 108, 115, 101]) := fun e => e.elim e1.1 e1.2
        have h2 : ¬ (2 ≤ s.length ∧ s.getD 0 0 = 39) := fun e => Bool.eq_false_iff.1 h2 (by simp only [Bool.and_eq_true, decide_eq_true_eq]; exact ⟨by omega, e.2⟩)
        refine tri_seq ?_
        rcases parse_cases s with ⟨n, hp⟩ | hp
        · skip
          have hcand : candP s = some ⟨1, n, []⟩ := by rw [candP, if_neg h2, hp]
          have fv := fitN (parse_in hp)
          refine tri_region ?_
          refine o_move rfl rfl ?_
          refine o_callP (first := []) (cap := []) rfl rfl rfl Tryd.call72 (fun w1 h1 => lib_parse s n w1 (by omega) hp) ?_
          refine o_move rfl rfl ?_
          refine o_extract rfl rfl rfl ?_
          refine o_extract rfl rfl rfl ?_
          refine o_assign rfl rfl ?_
          refine o_assign rfl rfl ?_
          refine triL_nil ?_
          refine thenQ_normal ?_
          refine tri_seq ?_
          refine tri_seq ?_
          refine tri_slots [(6, _), (5, _), (4, _), (2, _), (0, _)] (.cons rfl (.cons rfl (.cons rfl (.cons rfl (.cons rfl (.nil _)))))) ?_
          refine tri_region ?_
          refine o_move rfl rfl ?_
          refine o_neqNilI if61 rfl rfl ?_
          refine triL_nil ?_
          refine thenQ_normal ?_
          refine tri_cond_false rfl ?_
          refine tri_skip ?_
          refine thenQ_normal ?_
          refine tri_region ?_
          refine o_move rfl rfl ?_
          refine o_build (bval23_0_1 _ _) rfl rfl ?_
          refine o_storeBV sz23 (by repeat (first | exact Nth.z | apply Nth.s)) rfl rfl rfl ?_
          refine triL_nil ?_
          refine blockQ_normal ?_
          refine thenQ_normal ?_
          refine tri_seq ?_
          refine tri_slots [(4, _), (2, _), (0, _)] (.cons rfl (.cons rfl (.cons rfl (.nil _)))) ?_
          refine tri_region ?_
          refine o_loadBV agg23 sz23 (by repeat (first | exact Nth.z | apply Nth.s)) rfl rfl ?_
          refine o_callP (first := []) (cap := []) rfl rfl rfl Tryd.call41 (fun w1 h1 => printK _ w1 fv (hL.chg h1.chg)) ?_
          refine o_move rfl rfl ?_
          refine o_extract rfl rfl rfl ?_
          refine o_extract rfl rfl rfl ?_
          refine o_assign rfl rfl ?_
          refine o_assign rfl rfl ?_
          refine triL_nil ?_
          refine thenQ_normal ?_
          refine tri_seq ?_
          refine tri_seq ?_
          refine tri_slots [(8, _), (7, _), (4, _), (2, _), (0, _)] (.cons rfl (.cons rfl (.cons rfl (.cons rfl (.cons rfl (.nil _)))))) ?_
          refine tri_region ?_
          refine o_move rfl rfl ?_
          refine o_neqI rfl rfl rfl ?_
          refine o_move rfl rfl ?_
          refine' triL_or [_, _, _] [(4, _), (2, _)] (dj := 56) (dr := 59) rfl rfl (fun g3 => ?_) ⟨_, rfl, rfl, rfl, (.cons rfl (.cons rfl (.nil _)))⟩ rfl ?_
          rotate_left
          · skip
            refine o_move rfl rfl ?_
            refine o_move rfl rfl ?_
            refine o_neqT rfl rfl rfl ?_
            exact triL_nil (Piece.mk rfl rfl (.cons rfl (.cons rfl (.nil _))) (fun _ h => h))
          refine triL_nil ?_
          refine thenQ_normal ?_
          refine tri_cond rfl (fun h3 => ?_) (fun h3 => ?_)
          · skip
            simp only [Bool.or_eq_true, decide_eq_true_eq] at h3
            refine tri_seq ?_
            refine tri_region ?_
            refine o_build bval23 rfl rfl ?_
            refine o_storeBV sz23 (by repeat (first | exact Nth.z | apply Nth.s)) rfl rfl rfl ?_
            refine o_assign rfl rfl ?_
            refine triL_nil ?_
            refine thenQ_normal ?_
            refine tri_ret ?_
            refine thenQ_ret ?_
            refine endC2 rfl agg23 sz23 (by repeat (first | exact Nth.z | apply Nth.s)) rfl rfl rfl ?_
            exact fun w1 hw1 => ⟨by have e : rdV s = (Val.zero, 5) := (by rw [rd_cand h0 e1 hcand]; exact if_neg (fun e => h3.elim (fun a => a e.1) (fun a => a e.2))); rw [e] <;> rfl, hw1.chg⟩
          · skip
            simp only [Bool.or_eq_false_iff, decide_eq_false_iff_not] at h3
            refine tri_skip ?_
            refine thenQ_normal ?_
            refine tri_seq ?_
            refine tri_region ?_
            refine o_loadBV agg23 sz23 (by repeat (first | exact Nth.z | apply Nth.s)) rfl rfl ?_
            refine o_storeBV sz23 (by repeat (first | exact Nth.z | apply Nth.s)) rfl rfl rfl ?_
            refine o_assign rfl rfl ?_
            refine triL_nil ?_
            refine thenQ_normal ?_
            refine tri_ret ?_
            refine endC2 rfl agg23 sz23 (by repeat (first | exact Nth.z | apply Nth.s)) rfl rfl rfl ?_
            exact fun w1 hw1 => ⟨by have e : rdV s = (⟨1, n, []⟩, 0) := (by rw [rd_cand h0 e1 hcand]; exact if_pos ⟨Decidable.not_not.1 h3.1, Decidable.not_not.1 h3.2⟩); rw [e] <;> rfl, hw1.chg⟩
        · skip
          have hcand : candP s = none := by rw [candP, if_neg h2]; split; exact absurd (by assumption) (hp _); rfl
          refine tri_region ?_
          refine o_move rfl rfl ?_
          refine o_call (J := Int × Nat) (first := []) (cap := []) (fun j => .tuple #[.int .i64 j.1, .iface 93 (.pointer (some ⟨j.2, 0, none⟩))]) (fun _ => _) (fun _ => True) rfl rfl rfl Tryd.call72 (fun w1 h1 => (lib_bad s w1 (by omega) hp (hE.chg h1.chg)).mono fun e w2 ⟨j, he, hc⟩ => ⟨j, trivial, he, h1.ext hc⟩) (fun j _ => ?_)
          refine o_move rfl rfl ?_
          refine o_extract rfl rfl rfl ?_
          refine o_extract rfl rfl rfl ?_
          refine o_assign rfl rfl ?_
          refine o_assign rfl rfl ?_
          refine triL_nil ?_
          refine thenQ_normal ?_
          refine tri_seq ?_
          refine tri_seq ?_
          refine tri_slots [(6, _), (5, _), (4, _), (2, _), (0, _)] (.cons rfl (.cons rfl (.cons rfl (.cons rfl (.cons rfl (.nil _)))))) ?_
          refine tri_region ?_
          refine o_move rfl rfl ?_
          refine o_neqHeld if61 rfl rfl ?_
          refine triL_nil ?_
          refine thenQ_normal ?_
          refine tri_cond_true rfl ?_
          refine tri_seq ?_
          refine tri_slots [(2, _)] (.cons rfl (.nil _)) ?_
          refine tri_region ?_
          refine o_build bval23 rfl rfl ?_
          refine o_storeBV sz23 (by repeat (first | exact Nth.z | apply Nth.s)) rfl rfl rfl ?_
          refine o_assign rfl rfl ?_
          refine triL_nil ?_
          refine thenQ_normal ?_
          refine tri_ret ?_
          refine thenQ_ret ?_
          refine blockQ_ret ?_
          refine thenQ_ret ?_
          refine endC2 rfl agg23 sz23 (by repeat (first | exact Nth.z | apply Nth.s)) rfl rfl rfl ?_
          exact fun w1 hw1 => ⟨by have e : rdV s = (Val.zero, 5) := (by exact rd_none' h0 e1 hcand); rw [e] <;> rfl, hw1.chg⟩

end Go.Proofs.YtgogkkkacpacgaaDoor
