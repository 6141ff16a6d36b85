/- the other three laws of the sum, walked -/
import Derived.Test.YtijnbnlmmapgbaaLaws
import Derived.Test.YtijnbnlmmapgbaaSum2
namespace Go.Proofs.Ytijnbnlmmapgbaa
open Go.WK Go.RowKit 



theorem sumXors (A A2 : Option Addr) (n c n2 c2 : Nat) (l l2 : List UInt8) (w : World) (hr : Rd w A (bytesV l)) (hn : l.length = n) (hm : n ≤ 140737488351232) (hr2 : Rd w A2 (bytesV l2)) (hn2 : l2.length = n2) (hm2 : n2 ≤ 140737488351232) (hc : n ≤ c) (hc2 : n2 ≤ c2) : Calls Try.prog 5 #[.slice A n c, .slice A2 n2 c2] w (Pure w (.bool true)) := by
  refine calls_tri (args := [.slice A n c, .slice A2 n2 c2]) (lent := []) (H := []) Try.func5 rfl Try.ntmps5 rfl (Sat.start _ _ _ _) ?_
  refine (show Tri _ [(0, _), (1, _)] _ _ _ from ?_)
  have hR : ∀ cx H, cx.w0 = w → cx.lent = [] → RdS cx H A (bytesV l) := fun cx H h1 h2 => RdS.arg (by rw [h1]; exact hr) h2
  have hR2 : ∀ cx H, cx.w0 = w → cx.lent = [] → RdS cx H A2 (bytesV l2) := fun cx H h1 h2 => RdS.arg (by rw [h1]; exact hr2) h2
  refine tri_seq ?_
  refine tri_region ?_
  refine o_assign rfl rfl ?_
  refine triL_nil ?_
  refine thenQ_normal ?_
  refine tri_seq ?_
  refine tri_region ?_
  refine o_move rfl rfl ?_
  refine o_lenS Try.underlying23 rfl rfl ?_
  refine o_move rfl rfl ?_
  refine o_lenS Try.underlying23 rfl rfl ?_
  refine o_min rfl rfl rfl ?_
  refine o_assign rfl rfl ?_
  refine triL_nil ?_
  refine thenQ_normal ?_
  refine tri_seq ?_
  refine tri_slots [(5, _), (0, _), (1, _)] (.cons rfl (.cons rfl (.cons rfl (.nil _)))) ?_
  refine tri_region ?_
  refine o_assign rfl rfl ?_
  refine triL_nil ?_
  refine thenQ_normal ?_
  refine tri_seq ?_
  refine tri_seq ?_
  refine tri_region ?_
  refine o_assign rfl rfl ?_
  refine triL_nil ?_
  refine thenQ_normal ?_
  refine tri_block ?_
  refine tri_loop (ι := Nat × Option Addr × Nat) (F := fun q => [(0, .slice A n c), (1, .slice A2 n2 c2), (5, .int .i64 ((min n n2 : Nat) : Int)), (6, .slice q.2.1 q.1 q.2.2), (7, .int .i64 (q.1 : Int))]) (HH := fun q => [row (.slice q.2.1 q.1 q.2.2) 5 1 q.1 (bytesV (xorB l l2 q.1))]) (Pu := fun q => q.1 ≤ min n n2) (μ := fun q => min n n2 - q.1) ((0, none, 0)) (.cons rfl (.cons rfl (.cons (congrArg (fun k : Int => some (Value.int .i64 k)) (by omega)) (.cons rfl (.cons rfl (.nil _)))))) (fun _ h => nilRow _ _ h) (Nat.zero_le _) (fun q hi => ?_)
  refine tri_seq ?_
  refine tri_seq ?_
  refine tri_region ?_
  refine o_move rfl rfl ?_
  refine o_move rfl rfl ?_
  refine o_lss rfl rfl rfl ?_
  refine triL_nil ?_
  refine thenQ_normal ?_
  refine tri_if rfl (fun h1 => ?_) (fun h1 => ?_)
  · skip
    refine tri_skip ?_
    refine thenQ_normal ?_
    refine tri_seq ?_
    refine tri_block ?_
    refine tri_mix (_) [(0, true), (1, true), (2, true), (3, true), (4, true), (5, true), (6, true), (7, true), (8, true), (9, true), (10, false), (11, false), (12, false)] [11, 12] (by kernel_rfl) (by kernel_rfl) (fun _ h => h) ?_
    refine mix_fix rfl ?_
    refine o_move rfl rfl ?_
    refine triL_nil ⟨rfl, ?_⟩
    refine mix_fix rfl ?_
    refine o_move rfl rfl ?_
    refine triL_nil ⟨rfl, ?_⟩
    refine mix_fix rfl ?_
    refine o_move rfl rfl ?_
    refine triL_nil ⟨rfl, ?_⟩
    refine mix_fix rfl ?_
    refine o_idxS Try.underlying23 sz5 rfl rfl rfl (hR _ _ rfl rfl) (by omega) (by omega) (by rw [bytesV_length]; omega) (by decide) ?_
    refine triL_nil ⟨rfl, ?_⟩
    refine mix_fix rfl ?_
    refine o_loadR agg5 rfl rfl (hR _ _ rfl rfl) (rd_byte l q.1 (by simp) (by omega)) ?_
    refine triL_nil ⟨rfl, ?_⟩
    refine mix_fix rfl ?_
    refine o_move rfl rfl ?_
    refine triL_nil ⟨rfl, ?_⟩
    refine mix_fix rfl ?_
    refine o_move rfl rfl ?_
    refine triL_nil ⟨rfl, ?_⟩
    refine mix_fix rfl ?_
    refine o_idxS Try.underlying23 sz5 rfl rfl rfl (hR2 _ _ rfl rfl) (by omega) (by omega) (by rw [bytesV_length]; omega) (by decide) ?_
    refine triL_nil ⟨rfl, ?_⟩
    refine mix_fix rfl ?_
    refine o_loadR agg5 rfl rfl (hR2 _ _ rfl rfl) (rd_byte l2 q.1 (by simp) (by omega)) ?_
    refine triL_nil ⟨rfl, ?_⟩
    refine mix_fix rfl ?_
    refine o_xorU8 _ _ rfl rfl rfl ?_
    refine triL_nil ⟨rfl, ?_⟩
    refine mix_op rfl ?_
    refine o_lit1 Try.underlying23 zs5 rfl rfl rfl rfl rfl (by decide) (by decide) (fun b28 => ?_)
    refine triL_nil ⟨rfl, fun _ _ h => Sat.dropS 1 h, ?_⟩
    refine mix_rest [11, 12] [_, _] rfl rfl ?_
    refine o_append Try.underlying23 zsb5 rfl (by decide) (by first | exact Nth.z | exact .s .z | exact .s (.s .z) | exact .s (.s (.s .z)) | exact .s (.s (.s (.s .z))) | exact .s (.s (.s (.s (.s .z)))) | exact .s (.s (.s (.s (.s (.s .z))))) | exact .s (.s (.s (.s (.s (.s (.s .z))))))) rfl rfl rfl (news := bytesV [l.getD q.1 0 ^^^ l2.getD q.1 0]) (RdS.row .z) rfl (bytesV_one _) (by unfold maxLen; omega) (by omega) (fun A29 c29 => ?_)
    refine o_assign rfl rfl ?_
    refine triL_nil ⟨rfl, ?_⟩
    refine blockQ_normal ?_
    refine thenQ_normal ?_
    refine tri_slots [(6, _), (0, _), (1, _), (5, _), (7, _)] (.cons rfl (.cons rfl (.cons rfl (.cons rfl (.cons rfl (.nil _)))))) ?_
    refine tri_region ?_
    refine o_move rfl rfl ?_
    refine o_addN rfl rfl rfl (by omega) ?_
    refine o_assign rfl rfl ?_
    refine triL_nil ?_
    refine thenQ_normal ?_
    exact ⟨(q.1 + 1, A29, c29), (.cons rfl (.cons rfl (.cons rfl (.cons rfl (.cons rfl (.nil _)))))), (fun w1 h1 => by have e := xorB_snoc l l2 q.1 (by omega) (by omega); simp only [e, bytesV_append]; exact h1.tail), by simp only; omega, (by simp only; omega)⟩
  · skip
    have hq : q.1 = min n n2 := by omega
    refine tri_exit ?_
    refine thenQ_exit ?_
    refine thenQ_exit ?_
    refine blockQ_here ?_
    refine thenQ_normal ?_
    refine tri_seq ?_
    refine tri_slots [(0, _), (1, _), (5, _), (6, _)] (.cons rfl (.cons rfl (.cons rfl (.cons rfl (.nil _))))) ?_
    refine tri_mix (_) [(0, true), (1, true), (2, true), (3, true), (4, true), (5, true), (6, true), (7, true), (8, true), (9, true), (10, true), (11, true), (12, false), (13, false), (14, false), (15, false), (16, false), (17, false), (18, false), (19, false)] [14, 15, 16, 17, 18, 19] (by kernel_rfl) (by kernel_rfl) (fun _ h => h) ?_
    refine mix_fix rfl ?_
    refine o_move rfl rfl ?_
    refine triL_nil ⟨rfl, ?_⟩
    refine mix_fix rfl ?_
    refine o_callP (first := []) (cap := []) rfl rfl rfl Try.call10 (fun w1 h1 => sumOf q.2.1 q.1 q.2.2 (xorB l l2 q.1) w1 (h1.rd (RdS.row .z)) (by simp [xorB]; omega) (by omega)) ?_
    refine triL_nil ⟨rfl, ?_⟩
    refine mix_fix rfl ?_
    refine o_move rfl rfl ?_
    refine triL_nil ⟨rfl, ?_⟩
    refine mix_fix rfl ?_
    refine o_move rfl rfl ?_
    refine triL_nil ⟨rfl, ?_⟩
    refine mix_fix rfl ?_
    refine o_sliceSh Try.underlying23 sz5 rfl rfl rfl (by omega) (by omega) ?_
    refine triL_nil ⟨rfl, ?_⟩
    refine mix_fix rfl ?_
    refine o_callP (first := []) (cap := []) rfl rfl rfl Try.call10 (fun w1 h1 => sumOf A _ c (l.take (min n n2)) w1 (by rw [bytesV_take]; exact ((h1.rd (hR _ _ rfl rfl)).take _)) (by simp; omega) (by omega)) ?_
    refine triL_nil ⟨rfl, ?_⟩
    refine mix_fix rfl ?_
    refine o_move rfl rfl ?_
    refine triL_nil ⟨rfl, ?_⟩
    refine mix_fix rfl ?_
    refine o_move rfl rfl ?_
    refine triL_nil ⟨rfl, ?_⟩
    refine mix_fix rfl ?_
    refine o_sliceSh Try.underlying23 sz5 rfl rfl rfl (by omega) (by omega) ?_
    refine triL_nil ⟨rfl, ?_⟩
    refine mix_fix rfl ?_
    refine o_callP (first := []) (cap := []) rfl rfl rfl Try.call10 (fun w1 h1 => sumOf A2 _ c2 (l2.take (min n n2)) w1 (by rw [bytesV_take]; exact ((h1.rd (hR2 _ _ rfl rfl)).take _)) (by simp; omega) (by omega)) ?_
    refine triL_nil ⟨rfl, ?_⟩
    refine mix_fix rfl ?_
    refine o_xor32 _ _ rfl rfl rfl ?_
    refine triL_nil ⟨rfl, ?_⟩
    refine mix_fix rfl ?_
    refine o_move rfl rfl ?_
    refine triL_nil ⟨rfl, ?_⟩
    refine mix_op rfl ?_
    refine o_make (n := min n n2) Try.underlying23 zsb5 rfl rfl rfl (by omega) (by omega) (by omega) (by unfold maxLen; omega) (fun b42 => ?_)
    refine triL_nil ⟨rfl, fun _ _ h => Sat.dropS 1 h, ?_⟩
    refine mix_op rfl ?_
    refine o_callP (first := []) (cap := []) rfl rfl rfl Try.call10 (fun w1 h1 => sumOf (some ⟨b42, 0, none⟩) (min n n2) (min n n2) (List.replicate (min n n2) 0) w1 (by have := h1.rd (RdS.row (cx := _) .z); rw [Nat.mul_one, bytesV_zeros] at this; exact this) (by simp) (by omega)) ?_
    refine triL_nil ⟨rfl, fun _ _ h => Sat.dropS 1 h, ?_⟩
    refine mix_rest [14, 15, 16, 17, 18, 19] [_, _, _, _, _, _] rfl rfl ?_
    refine o_xor32 _ _ rfl rfl rfl ?_
    refine o_eql32 _ _ rfl rfl rfl ?_
    refine o_move rfl rfl ?_
    refine' triL_and [_] [] (dj := 46) (dr := 47) rfl rfl (fun g2 => ?_) ⟨_, rfl, rfl, rfl, (.nil _)⟩ rfl ?_
    rotate_left
    · skip
      skip
      refine o_callP (first := []) (cap := []) rfl rfl rfl Try.call15 (fun w1 h1 => alive w1) ?_
      exact triL_nil (Piece.mk rfl rfl (.nil _) (fun _ h => h))
    refine o_assign rfl rfl ?_
    refine triL_nil ⟨rfl, ?_⟩
    refine thenQ_normal ?_
    refine tri_ret ?_
    refine end1 rfl rfl ?_
    have e1 : xorB l l2 q.1 = List.zipWith (· ^^^ ·) (l.take (min n n2)) (l2.take (min n n2)) := by rw [xorB, hq]
    have e2 := more_xor (l.take (min n n2)) (l2.take (min n n2)) (by simp; omega)
    have e3 : (l.take (min n n2)).length = min n n2 := by simp; omega
    rw [← e1, e3] at e2
    exact fun w1 h1 => ⟨congrArg (fun b => Ending.returned (.bool b)) (by rw [e2]; simp), h1.chg⟩

theorem slen (l : List UInt8) : (sealed l).length = l.length + 4 := by simp [sealed, le4_len]

theorem sumBursts (at_ : Int) (v : BitVec 32) (A : Option Addr) (n c : Nat) (l : List UInt8) (w : World) (hr : Rd w A (bytesV l)) (hn : l.length = n) (hm : n ≤ 140737488351232) : Calls Try.prog 7 #[.slice A n c, .int .i64 at_, u32V v] w (Pure w (.bool true)) := by
  refine calls_tri (args := [.slice A n c, .int .i64 at_, u32V v]) (lent := []) (H := []) Try.func7 rfl Try.ntmps7 rfl (Sat.start _ _ _ _) ?_
  refine (show Tri _ [(0, _), (1, _), (2, _)] _ _ _ from ?_)
  have hR : ∀ cx H, cx.w0 = w → cx.lent = [] → RdS cx H A (bytesV l) := fun cx H h1 h2 => RdS.arg (by rw [h1]; exact hr) h2
  refine tri_seq ?_
  refine tri_region ?_
  refine o_assign rfl rfl ?_
  refine triL_nil ?_
  refine thenQ_normal ?_
  refine tri_seq ?_
  refine tri_region ?_
  refine o_move rfl rfl ?_
  refine o_callF (first := []) (cap := []) id rfl rfl rfl Try.call16 (fun w1 h1 => seal1 A n c l w1 (h1.rd (hR _ _ rfl rfl)) hn (by omega)) (fun A7 c7 => ?_)
  refine TriX.know (fun w1 h1 => own_cap (h1.holds _ List.mem_cons_self)) (fun hc7 => ?_)
  refine o_assign rfl rfl ?_
  refine triL_nil ?_
  refine thenQ_normal ?_
  refine tri_seq ?_
  refine tri_seq ?_
  refine tri_region ?_
  refine o_move rfl rfl ?_
  refine o_lss rfl rfl rfl ?_
  refine o_move rfl rfl ?_
  refine' triL_or [_, _] [(7, _), (0, _), (1, _), (2, _)] (dj := 16) (dr := 18) rfl rfl (fun g1 => ?_) ⟨_, rfl, rfl, rfl, (.cons rfl (.cons rfl (.cons rfl (.cons rfl (.nil _)))))⟩ rfl ?_
  rotate_left
  · skip
    skip
    refine o_move rfl rfl ?_
    refine o_eql32 _ 0#32 rfl rfl rfl ?_
    exact triL_nil (Piece.mk rfl rfl (.cons rfl (.cons rfl (.cons rfl (.cons rfl (.nil _))))) (fun _ h => h))
  refine o_move rfl rfl ?_
  refine' triL_or [_, _, _] [(7, _), (0, _), (1, _), (2, _)] (dj := 20) (dr := 23) rfl rfl (fun g2 => ?_) ⟨_, rfl, rfl, rfl, (.cons rfl (.cons rfl (.cons rfl (.cons rfl (.nil _)))))⟩ rfl ?_
  rotate_left
  · skip
    skip
    refine o_move rfl rfl ?_
    refine o_lenS Try.underlying23 rfl rfl ?_
    refine o_eqlI rfl rfl rfl ?_
    exact triL_nil (Piece.mk rfl rfl (.cons rfl (.cons rfl (.cons rfl (.cons rfl (.nil _))))) (fun _ h => h))
  refine o_move rfl rfl ?_
  refine' triL_or [_, _, _, _, _, _] [(7, _), (1, _), (2, _)] (dj := 25) (dr := 31) rfl rfl (fun g3 => ?_) ⟨_, rfl, rfl, rfl, (.cons rfl (.cons rfl (.cons rfl (.nil _))))⟩ rfl ?_
  rotate_left
  · skip
    skip
    refine o_move rfl rfl ?_
    refine o_lenS Try.underlying23 rfl rfl ?_
    refine o_subN rfl rfl rfl (by omega) ?_
    refine o_move rfl rfl ?_
    refine o_lenS Try.underlying23 rfl rfl ?_
    refine o_neqI rfl rfl rfl ?_
    exact triL_nil (Piece.mk rfl rfl (.cons rfl (.cons rfl (.cons rfl (.nil _)))) (fun _ h => h))
  refine triL_nil ?_
  refine thenQ_normal ?_
  refine tri_cond rfl (fun h0 => ?_) (fun h0 => ?_)
  · skip
    refine tri_seq ?_
    refine tri_slots [] (.nil _) ?_
    refine tri_region ?_
    refine o_callP (first := []) (cap := []) rfl rfl rfl Try.call15 (fun w1 h1 => alive w1) ?_
    refine o_assign rfl rfl ?_
    refine triL_nil ?_
    refine thenQ_normal ?_
    refine tri_ret ?_
    refine thenQ_ret ?_
    refine end1 rfl rfl ?_
    exact fun w1 h1 => ⟨rfl, h1.chg⟩
  · skip
    simp only [Bool.or_eq_false_iff, decide_eq_false_iff_not] at h0
    obtain ⟨⟨⟨h0, _⟩, _⟩, _⟩ := h0
    refine tri_skip ?_
    refine thenQ_normal ?_
    refine tri_seq ?_
    refine tri_region ?_
    refine o_move rfl rfl ?_
    refine o_move rfl rfl ?_
    refine o_lenS Try.underlying23 rfl rfl ?_
    refine o_mulN rfl rfl rfl (by omega) ?_
    refine o_remN rfl rfl rfl (by omega) (by omega) ?_
    refine o_assign rfl rfl ?_
    refine triL_nil ?_
    refine thenQ_normal ?_
    refine tri_seq ?_
    refine tri_slots [(1, _), (7, _), (2, _)] (.cons rfl (.cons rfl (.cons rfl (.nil _)))) ?_
    have hp0 := Int.emod_nonneg at_ (show (8 : Int) * ((n + 4 : Nat) : Int) ≠ 0 by omega)
    have hp1 := Int.emod_lt_of_pos at_ (show (0 : Int) < 8 * ((n + 4 : Nat) : Int) by omega)
    obtain ⟨p, hp⟩ := Int.eq_ofNat_of_zero_le hp0
    have hp2 : p < 8 * (n + 4) := by omega
    refine tri_region ?_
    refine o_assign rfl rfl ?_
    refine triL_nil ?_
    refine thenQ_normal ?_
    refine tri_seq ?_
    refine tri_seq ?_
    refine tri_region ?_
    refine o_assign rfl rfl ?_
    refine triL_nil ?_
    refine thenQ_normal ?_
    refine tri_block ?_
    refine tri_loop (ι := Nat) (F := fun k => [(1, .int .i64 (p : Int)), (2, u32V v), (7, .slice A7 (n + 4) c7), (8, .bool (decide (low v k ≠ 0#32))), (9, .int .i64 (k : Int))]) (HH := fun k => [row (.slice A7 (n + 4) c7) 5 1 (n + 4) (bytesV (turn (sealed l) p v k))]) (Pu := fun k => k ≤ 32 ∧ p + k ≤ 8 * (n + 4)) (μ := fun k => 32 - k) (0) (.cons (congrArg (fun k : Int => some (Value.int .i64 k)) hp) (.cons rfl (.cons rfl (.cons rfl (.cons rfl (.nil _)))))) (fun _ h => h) (⟨by omega, by omega⟩) (fun k hi => ?_)
    refine tri_seq ?_
    refine tri_seq ?_
    refine tri_region ?_
    refine o_move rfl rfl ?_
    refine o_lss rfl rfl rfl ?_
    refine o_move rfl rfl ?_
    refine' triL_and [_, _, _, _, _, _, _] [(1, _), (2, _), (7, _), (8, _), (9, _)] (dj := 41) (dr := 48) rfl rfl (fun g4 => ?_) ⟨_, rfl, rfl, rfl, (.cons rfl (.cons rfl (.cons rfl (.cons rfl (.cons rfl (.nil _))))))⟩ rfl ?_
    rotate_left
    · skip
      have g4 := of_decide_eq_true g4
      refine o_move rfl rfl ?_
      refine o_move rfl rfl ?_
      refine o_addN rfl rfl rfl (by omega) ?_
      refine o_move rfl rfl ?_
      refine o_lenS Try.underlying23 rfl rfl ?_
      refine o_mulN rfl rfl rfl (by omega) ?_
      refine o_lss rfl rfl rfl ?_
      exact triL_nil (Piece.mk rfl rfl (.cons rfl (.cons rfl (.cons rfl (.cons rfl (.cons rfl (.nil _)))))) (fun _ h => h))
    refine triL_nil ?_
    refine thenQ_normal ?_
    refine tri_cond rfl (fun h1 => ?_) (fun h1 => ?_)
    · skip
      simp only [Bool.and_eq_true, decide_eq_true_eq] at h1
      refine tri_skip ?_
      refine thenQ_normal ?_
      refine tri_join (ι := Unit) (fun u => [(1, .int .i64 (p : Int)), (2, u32V v), (7, .slice A7 (n + 4) c7), (8, .bool (decide (low v (k + 1) ≠ 0#32))), (9, .int .i64 (k : Int))]) (fun u => [row (.slice A7 (n + 4) c7) 5 1 (n + 4) (bytesV (turn (sealed l) p v (k + 1)))]) (fun u => True) ?_ (fun u hj => ?_)
      · skip
        refine tri_block ?_
        refine tri_seq ?_
        refine tri_region ?_
        refine o_move rfl rfl ?_
        refine o_move rfl rfl ?_
        refine o_shr32 _ rfl rfl rfl (by omega) ?_
        refine o_and32 _ 1#32 rfl rfl rfl ?_
        refine o_eql32 _ 1#32 rfl rfl rfl ?_
        refine triL_nil ?_
        refine thenQ_normal ?_
        refine tri_if rfl (fun h2 => ?_) (fun h2 => ?_)
        · skip
          refine tri_seq ?_
          refine tri_slots [(1, _), (2, _), (7, _), (9, _)] (.cons rfl (.cons rfl (.cons rfl (.cons rfl (.nil _))))) ?_
          refine tri_mix (_) [(0, true), (1, true), (2, true), (3, true), (4, true), (5, true), (6, true), (7, true), (8, true), (9, true), (10, true), (11, true), (12, true), (13, true), (14, true), (15, true), (16, true), (17, true), (18, false), (19, false)] [18, 19] (by kernel_rfl) (by kernel_rfl) (fun _ h => h) ?_
          refine mix_fix rfl ?_
          refine o_move rfl rfl ?_
          refine triL_nil ⟨rfl, ?_⟩
          refine mix_fix rfl ?_
          refine o_move rfl rfl ?_
          refine triL_nil ⟨rfl, ?_⟩
          refine mix_fix rfl ?_
          refine o_move rfl rfl ?_
          refine triL_nil ⟨rfl, ?_⟩
          refine mix_fix rfl ?_
          refine o_addN rfl rfl rfl (by omega) ?_
          refine triL_nil ⟨rfl, ?_⟩
          refine mix_fix rfl ?_
          refine o_quoN rfl rfl rfl (by omega) (by omega) (by omega) ?_
          refine triL_nil ⟨rfl, ?_⟩
          refine mix_fix rfl ?_
          refine o_move rfl rfl ?_
          refine triL_nil ⟨rfl, ?_⟩
          refine mix_fix rfl ?_
          refine o_move rfl rfl ?_
          refine triL_nil ⟨rfl, ?_⟩
          refine mix_fix rfl ?_
          refine o_move rfl rfl ?_
          refine triL_nil ⟨rfl, ?_⟩
          refine mix_fix rfl ?_
          refine o_addN rfl rfl rfl (by omega) ?_
          refine triL_nil ⟨rfl, ?_⟩
          refine mix_fix rfl ?_
          refine o_quoN rfl rfl rfl (by omega) (by omega) (by omega) ?_
          refine triL_nil ⟨rfl, ?_⟩
          refine mix_fix rfl ?_
          refine o_idxS Try.underlying23 sz5 rfl rfl rfl (RdS.row .z) (by omega) (by omega) (by rw [bytesV_length, turn_len, slen]; omega) (by decide) ?_
          refine triL_nil ⟨rfl, ?_⟩
          refine mix_fix rfl ?_
          refine o_loadR agg5 rfl rfl (RdS.row .z) (rd_byte (turn (sealed l) p v k) ((p + k) / 8) (by omega) (by rw [turn_len, slen]; omega)) ?_
          refine triL_nil ⟨rfl, ?_⟩
          refine mix_fix rfl ?_
          refine o_move rfl rfl ?_
          refine triL_nil ⟨rfl, ?_⟩
          refine mix_fix rfl ?_
          refine o_move rfl rfl ?_
          refine triL_nil ⟨rfl, ?_⟩
          refine mix_fix rfl ?_
          refine o_addN rfl rfl rfl (by omega) ?_
          refine triL_nil ⟨rfl, ?_⟩
          refine mix_fix rfl ?_
          refine o_remN rfl rfl rfl (by omega) (by omega) ?_
          refine triL_nil ⟨rfl, ?_⟩
          refine mix_fix rfl ?_
          refine o_shl8 ((p + k) % 8) rfl rfl rfl (by omega) (by omega) ?_
          refine triL_nil ⟨rfl, ?_⟩
          refine mix_fix rfl ?_
          refine o_xorU8 _ _ rfl rfl rfl ?_
          refine triL_nil ⟨rfl, ?_⟩
          refine mix_rest [18, 19] [_, _] rfl rfl ?_
          refine o_idxS Try.underlying23 sz5 rfl rfl rfl (RdS.row .z) (by omega) (by omega) (by rw [bytesV_length, turn_len, slen]; omega) (by decide) ?_
          refine o_storeR sz5 (by first | exact Nth.z | exact .s .z | exact .s (.s .z) | exact .s (.s (.s .z)) | exact .s (.s (.s (.s .z))) | exact .s (.s (.s (.s (.s .z)))) | exact .s (.s (.s (.s (.s (.s .z))))) | exact .s (.s (.s (.s (.s (.s (.s .z))))))) rfl rfl rfl rfl (by rw [bytesV_length, turn_len, slen]; omega) rfl ?_
          refine triL_nil ⟨rfl, ?_⟩
          refine thenQ_normal ?_
          refine tri_slots [(1, _), (2, _), (7, _), (9, _)] (.cons rfl (.cons rfl (.cons rfl (.cons rfl (.nil _))))) ?_
          refine tri_region ?_
          refine o_assign rfl rfl ?_
          refine triL_nil ?_
          refine blockQ_normal ?_
          refine thenQ_normal ?_
          have hb : bitSet v k = true := decide_eq_true h2
          have e1 : turn (sealed l) p v (k + 1) = (turn (sealed l) p v k).set ((p + k) / 8) ((turn (sealed l) p v k).getD ((p + k) / 8) 0 ^^^ UInt8.ofNat (2 ^ ((p + k) % 8))) := by rw [turn, if_pos hb]; rfl
          have e2 : decide (low v (k + 1) ≠ 0#32) = true := decide_eq_true (low_set v k (by omega) hb)
          exact ⟨(), (.cons rfl (.cons rfl (.cons rfl (.cons (congrArg (fun b => some (Value.bool b)) e2.symm) (.cons rfl (.nil _)))))), (fun w1 h1 => by rw [e1, ← bytesV_set]; rw [show (((p : Int) + (k : Int)) / 8).toNat * 1 = (p + k) / 8 by omega] at h1; exact h1), trivial⟩
        · skip
          refine tri_skip ?_
          refine blockQ_normal ?_
          refine thenQ_normal ?_
          have hb : ¬ bitSet v k = true := fun h => h2 (of_decide_eq_true h)
          have e1 : turn (sealed l) p v (k + 1) = turn (sealed l) p v k := by rw [turn, if_neg hb]
          have e2 : low v (k + 1) = low v k := by rw [low, if_neg hb]
          exact ⟨(), (.cons rfl (.cons rfl (.cons rfl (.cons (congrArg (fun x => some (Value.bool (decide (x ≠ 0#32)))) e2.symm) (.cons rfl (.nil _)))))), (fun w1 h1 => by rw [e1]; exact h1), trivial⟩
      refine tri_region ?_
      refine o_move rfl rfl ?_
      refine o_addN rfl rfl rfl (by omega) ?_
      refine o_assign rfl rfl ?_
      refine triL_nil ?_
      refine thenQ_normal ?_
      exact ⟨k + 1, (.cons rfl (.cons rfl (.cons rfl (.cons rfl (.cons rfl (.nil _)))))), fun _ h => h, ⟨by omega, by omega⟩, by omega⟩
    · skip
      simp only [Bool.and_eq_false_iff, decide_eq_false_iff_not] at h1
      have hk : k = 32 ∨ p + k = 8 * (n + 4) := by omega
      refine tri_exit ?_
      refine thenQ_exit ?_
      refine thenQ_exit ?_
      refine blockQ_here ?_
      refine thenQ_normal ?_
      refine tri_seq ?_
      refine tri_slots [(7, _), (8, _)] (.cons rfl (.cons rfl (.nil _))) ?_
      refine tri_region ?_
      refine o_move rfl rfl ?_
      refine o_call (J := Value) (first := []) (cap := []) (fun u => .tuple #[u, .bool (openB (turn (sealed l) p v k))]) (fun _ => [row (.slice A7 (n + 4) c7) 5 1 (n + 4) (bytesV (turn (sealed l) p v k))]) (fun _ => True) rfl rfl rfl Try.call17 (fun w1 h1 => (open1 A7 (n + 4) c7 (turn (sealed l) p v k) w1 (h1.rd (RdS.row .z)) (by rw [turn_len, slen]; omega) (by omega) hc7).mono fun e w' h => by
          rcases h with ⟨hb, A9, c9, he, _, _, hx⟩ | ⟨hb, he, hx⟩
          · exact ⟨_, trivial, by rw [he, hb], h1.ext hx⟩
          · exact ⟨_, trivial, by rw [he, hb], h1.ext hx⟩) (fun u _ => ?_)
      refine o_move rfl rfl ?_
      refine o_extract rfl rfl rfl ?_
      refine o_extract rfl rfl rfl ?_
      refine o_assign rfl rfl ?_
      refine o_assign rfl rfl ?_
      refine triL_nil ?_
      refine thenQ_normal ?_
      refine tri_seq ?_
      refine tri_slots [(11, _), (8, _)] (.cons rfl (.cons rfl (.nil _))) ?_
      refine tri_region ?_
      refine o_move rfl rfl ?_
      refine o_move rfl rfl ?_
      refine o_neqB rfl Try.underlying4 rfl rfl ?_
      refine o_move rfl rfl ?_
      refine' triL_and [_] [] (dj := 84) (dr := 85) rfl rfl (fun g5 => ?_) ⟨_, rfl, rfl, rfl, (.nil _)⟩ rfl ?_
      rotate_left
      · skip
        skip
        refine o_callP (first := []) (cap := []) rfl rfl rfl Try.call15 (fun w1 h1 => alive w1) ?_
        exact triL_nil (Piece.mk rfl rfl (.nil _) (fun _ h => h))
      refine o_assign rfl rfl ?_
      refine triL_nil ?_
      refine thenQ_normal ?_
      refine tri_ret ?_
      refine end1 rfl rfl ?_
      have e := openB_turn l p v k (by omega) (by rw [slen]; omega)
      exact fun w1 h1 => ⟨congrArg (fun b => Ending.returned (.bool b)) (by rw [e]; by_cases hz : low v k = 0#32 <;> simp [hz]), h1.chg⟩

theorem sumBytes (at_ : Int) (by_ : UInt8) (A : Option Addr) (n c : Nat) (l : List UInt8) (w : World) (hr : Rd w A (bytesV l)) (hn : l.length = n) (hm : n ≤ 140737488351232) : Calls Try.prog 8 #[.slice A n c, .int .i64 at_, byteV by_] w (Pure w (.bool true)) := by
  refine calls_tri (args := [.slice A n c, .int .i64 at_, byteV by_]) (lent := []) (H := []) Try.func8 rfl Try.ntmps8 rfl (Sat.start _ _ _ _) ?_
  refine (show Tri _ [(0, _), (1, _), (2, _)] _ _ _ from ?_)
  have hR : ∀ cx H, cx.w0 = w → cx.lent = [] → RdS cx H A (bytesV l) := fun cx H h1 h2 => RdS.arg (by rw [h1]; exact hr) h2
  refine tri_seq ?_
  refine tri_region ?_
  refine o_assign rfl rfl ?_
  refine triL_nil ?_
  refine thenQ_normal ?_
  refine tri_seq ?_
  refine tri_region ?_
  refine o_move rfl rfl ?_
  refine o_callF (first := []) (cap := []) id rfl rfl rfl Try.call16 (fun w1 h1 => seal1 A n c l w1 (h1.rd (hR _ _ rfl rfl)) hn (by omega)) (fun A7 c7 => ?_)
  refine TriX.know (fun w1 h1 => own_cap (h1.holds _ List.mem_cons_self)) (fun hc7 => ?_)
  refine o_assign rfl rfl ?_
  refine triL_nil ?_
  refine thenQ_normal ?_
  refine tri_seq ?_
  refine tri_seq ?_
  refine tri_slots [(7, _), (1, _), (2, _)] (.cons rfl (.cons rfl (.cons rfl (.nil _)))) ?_
  refine tri_region ?_
  refine o_move rfl rfl ?_
  refine o_lss rfl rfl rfl ?_
  refine o_move rfl rfl ?_
  refine' triL_or [_, _] [(7, _), (1, _), (2, _)] (dj := 14) (dr := 16) rfl rfl (fun g1 => ?_) ⟨_, rfl, rfl, rfl, (.cons rfl (.cons rfl (.cons rfl (.nil _))))⟩ rfl ?_
  rotate_left
  · skip
    skip
    refine o_move rfl rfl ?_
    refine o_eqlU8 _ 0 rfl rfl rfl ?_
    exact triL_nil (Piece.mk rfl rfl (.cons rfl (.cons rfl (.cons rfl (.nil _)))) (fun _ h => h))
  refine o_move rfl rfl ?_
  refine' triL_or [_, _, _] [(7, _), (1, _), (2, _)] (dj := 18) (dr := 21) rfl rfl (fun g2 => ?_) ⟨_, rfl, rfl, rfl, (.cons rfl (.cons rfl (.cons rfl (.nil _))))⟩ rfl ?_
  rotate_left
  · skip
    skip
    refine o_move rfl rfl ?_
    refine o_lenS Try.underlying23 rfl rfl ?_
    refine o_eqlI rfl rfl rfl ?_
    exact triL_nil (Piece.mk rfl rfl (.cons rfl (.cons rfl (.cons rfl (.nil _)))) (fun _ h => h))
  refine triL_nil ?_
  refine thenQ_normal ?_
  refine tri_cond rfl (fun h0 => ?_) (fun h0 => ?_)
  · skip
    refine tri_seq ?_
    refine tri_slots [] (.nil _) ?_
    refine tri_region ?_
    refine o_callP (first := []) (cap := []) rfl rfl rfl Try.call15 (fun w1 h1 => alive w1) ?_
    refine o_assign rfl rfl ?_
    refine triL_nil ?_
    refine thenQ_normal ?_
    refine tri_ret ?_
    refine thenQ_ret ?_
    refine end1 rfl rfl ?_
    exact fun w1 h1 => ⟨rfl, h1.chg⟩
  · skip
    simp only [Bool.or_eq_false_iff, decide_eq_false_iff_not] at h0
    obtain ⟨⟨h0, hby⟩, _⟩ := h0
    have hp0 := Int.emod_nonneg at_ (show ((n + 4 : Nat) : Int) ≠ 0 by omega)
    have hp1 := Int.emod_lt_of_pos at_ (show (0 : Int) < ((n + 4 : Nat) : Int) by omega)
    obtain ⟨p, hp⟩ := Int.eq_ofNat_of_zero_le hp0
    have hp2 : p < (sealed l).length := by rw [slen]; omega
    have hps : (sealed l).length = n + 4 := by rw [slen]; omega
    have hob := openB_byte l p by_ hp2 hby
    refine tri_skip ?_
    refine thenQ_normal ?_
    refine tri_seq ?_
    refine tri_mix (_) [(0, true), (1, true), (2, true), (3, true), (4, true), (5, true), (6, true), (7, true), (8, true), (9, true), (10, true), (11, true), (12, true), (13, true), (14, false), (15, false)] [14, 15] (by kernel_rfl) (by kernel_rfl) (fun _ h => h) ?_
    refine mix_fix rfl ?_
    refine o_move rfl rfl ?_
    refine triL_nil ⟨rfl, ?_⟩
    refine mix_fix rfl ?_
    refine o_move rfl rfl ?_
    refine triL_nil ⟨rfl, ?_⟩
    refine mix_fix rfl ?_
    refine o_move rfl rfl ?_
    refine triL_nil ⟨rfl, ?_⟩
    refine mix_fix rfl ?_
    refine o_lenS Try.underlying23 rfl rfl ?_
    refine triL_nil ⟨rfl, ?_⟩
    refine mix_fix rfl ?_
    refine o_remN rfl rfl rfl (by omega) (by omega) ?_
    refine triL_nil ⟨rfl, ?_⟩
    refine mix_fix rfl ?_
    refine o_move rfl rfl ?_
    refine triL_nil ⟨rfl, ?_⟩
    refine mix_fix rfl ?_
    refine o_move rfl rfl ?_
    refine triL_nil ⟨rfl, ?_⟩
    refine mix_fix rfl ?_
    refine o_move rfl rfl ?_
    refine triL_nil ⟨rfl, ?_⟩
    refine mix_fix rfl ?_
    refine o_lenS Try.underlying23 rfl rfl ?_
    refine triL_nil ⟨rfl, ?_⟩
    refine mix_fix rfl ?_
    refine o_remN rfl rfl rfl (by omega) (by omega) ?_
    refine triL_nil ⟨rfl, ?_⟩
    refine mix_fix rfl ?_
    refine o_idxS Try.underlying23 sz5 rfl rfl rfl (RdS.row .z) (by omega) (by omega) (by rw [bytesV_length]; omega) (by decide) ?_
    refine triL_nil ⟨rfl, ?_⟩
    refine mix_fix rfl ?_
    refine o_loadR agg5 rfl rfl (RdS.row .z) (rd_byte (sealed l) p (by omega) (by omega)) ?_
    refine triL_nil ⟨rfl, ?_⟩
    refine mix_fix rfl ?_
    refine o_move rfl rfl ?_
    refine triL_nil ⟨rfl, ?_⟩
    refine mix_fix rfl ?_
    refine o_xorU8 _ _ rfl rfl rfl ?_
    refine triL_nil ⟨rfl, ?_⟩
    refine mix_rest [14, 15] [_, _] rfl rfl ?_
    refine o_idxS Try.underlying23 sz5 rfl rfl rfl (RdS.row .z) (by omega) (by omega) (by rw [bytesV_length]; omega) (by decide) ?_
    refine o_storeR sz5 (by first | exact Nth.z | exact .s .z | exact .s (.s .z) | exact .s (.s (.s .z)) | exact .s (.s (.s (.s .z))) | exact .s (.s (.s (.s (.s .z)))) | exact .s (.s (.s (.s (.s (.s .z))))) | exact .s (.s (.s (.s (.s (.s (.s .z))))))) rfl rfl rfl rfl (by rw [bytesV_length]; omega) rfl ?_
    refine triL_nil ⟨rfl, ?_⟩
    refine thenQ_normal ?_
    refine tri_seq ?_
    refine tri_slots [(7, _)] (.cons rfl (.nil _)) ?_
    rw [show (at_ % ((n + 4 : Nat) : Int)).toNat * 1 = p by omega, bytesV_set]
    refine tri_region ?_
    refine o_move rfl rfl ?_
    refine o_callP (first := []) (cap := []) rfl rfl rfl Try.call17 (fun w1 h1 => (open1 A7 (n + 4) c7 _ w1 (h1.rd (RdS.row .z)) (by rw [List.length_set]; omega) (by omega) hc7).mono fun e w' h => h.elim (fun hh => absurd hh.1 (by rw [hob]; simp)) (fun hh => hh.2)) ?_
    refine o_move rfl rfl ?_
    refine o_extract rfl rfl rfl ?_
    refine o_extract rfl rfl rfl ?_
    refine o_assign rfl rfl ?_
    refine o_assign rfl rfl ?_
    refine triL_nil ?_
    refine thenQ_normal ?_
    refine tri_seq ?_
    refine tri_slots [(9, _), (8, _)] (.cons rfl (.cons rfl (.nil _))) ?_
    refine tri_region ?_
    refine o_move rfl rfl ?_
    refine o_not rfl rfl ?_
    refine o_move rfl rfl ?_
    refine' triL_and [_, _, _] [] (dj := 46) (dr := 49) rfl rfl (fun g3 => ?_) ⟨_, rfl, rfl, rfl, (.nil _)⟩ rfl ?_
    rotate_left
    · skip
      skip
      refine o_move rfl rfl ?_
      refine o_lenS Try.underlying23 rfl rfl ?_
      refine o_eqlI rfl rfl rfl ?_
      exact triL_nil (Piece.mk rfl rfl (.nil _) (fun _ h => h))
    refine o_move rfl rfl ?_
    refine' triL_and [_] [] (dj := 51) (dr := 52) rfl rfl (fun g4 => ?_) ⟨_, rfl, rfl, rfl, (.nil _)⟩ rfl ?_
    rotate_left
    · skip
      skip
      refine o_callP (first := []) (cap := []) rfl rfl rfl Try.call15 (fun w1 h1 => alive w1) ?_
      exact triL_nil (Piece.mk rfl rfl (.nil _) (fun _ h => h))
    refine o_assign rfl rfl ?_
    refine triL_nil ?_
    refine thenQ_normal ?_
    refine tri_ret ?_
    refine end1 rfl rfl ?_
    exact fun w1 h1 => ⟨rfl, h1.chg⟩

end Go.Proofs.Ytijnbnlmmapgbaa
