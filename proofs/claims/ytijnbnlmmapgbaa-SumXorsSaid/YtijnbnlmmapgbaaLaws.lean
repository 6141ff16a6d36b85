/- the laws of the sum, walked -/
import Derived.Test.YtijnbnlmmapgbaaWalks
import Derived.KernelRfl
namespace Go.Proofs.Ytijnbnlmmapgbaa
open Go.WK Go.RowKit 



theorem alive_bad : openB [49, 131, 146, 6, 227] = false := by kernel_rfl

theorem alive  (w : World)  : Calls Try.prog 15 #[] w (Pure w (.bool true)) := by
  refine calls_tri (args := []) (lent := []) (H := []) Try.func15 rfl Try.ntmps15 rfl (Sat.start _ _ _ _) ?_
  refine (show Tri _ [] _ _ _ from ?_)
  refine tri_seq ?_
  refine tri_region ?_
  refine o_assign rfl rfl ?_
  refine triL_nil ?_
  refine thenQ_normal ?_
  refine tri_seq ?_
  refine tri_region ?_
  refine o_lit (parts := [_, _, _, _, _]) (bytesV [49, 131, 146, 6, 227]) Try.underlying23 zs5 rfl rfl rfl rfl (by decide) (by decide) (fun b5 => ?_)
  refine o_callP (first := []) (cap := []) rfl rfl rfl Try.call17 (fun w1 h1 => (open1 (some ⟨b5, 0, none⟩) 5 5 [49, 131, 146, 6, 227] w1 (h1.rd (RdS.row .z)) rfl (by omega) (by omega)).mono fun e w' h => h.elim (fun hh => absurd hh.1 (by rw [alive_bad]; simp)) (fun hh => hh.2)) ?_
  refine o_move rfl rfl ?_
  refine o_extract rfl rfl rfl ?_
  refine o_extract rfl rfl rfl ?_
  refine o_assign rfl rfl ?_
  refine o_assign rfl rfl ?_
  refine triL_nil ?_
  refine thenQ_normal ?_
  refine tri_seq ?_
  refine tri_slots [(2, _), (1, _)] (.cons rfl (.cons rfl (.nil _))) ?_
  refine tri_region ?_
  refine o_lit (parts := [_, _, _, _, _, _, _, _, _]) (bytesV [49, 50, 51, 52, 53, 54, 55, 56, 57]) Try.underlying23 zs5 rfl rfl rfl rfl (by decide) (by decide) (fun b9 => ?_)
  refine o_mark Try.underlying23 Try.underlying5 (by first | exact Nth.z | exact .s .z | exact .s (.s .z) | exact .s (.s (.s .z)) | exact .s (.s (.s (.s .z))) | exact .s (.s (.s (.s (.s .z)))) | exact .s (.s (.s (.s (.s (.s .z))))) | exact .s (.s (.s (.s (.s (.s (.s .z))))))) rfl rfl ?_
  refine o_callF (first := []) (cap := []) id rfl rfl rfl Try.call16 (fun w1 h1 => seal1 (some ⟨b9, 0, none⟩) 9 9 [49, 50, 51, 52, 53, 54, 55, 56, 57] w1 (h1.rd (RdS.frz .z)) rfl (by omega)) (fun A11 c11 => ?_)
  refine o_assign rfl rfl ?_
  refine triL_nil ?_
  refine thenQ_normal ?_
  refine tri_seq ?_
  refine tri_region ?_
  refine o_move rfl rfl ?_
  refine o_not rfl rfl ?_
  refine o_move rfl rfl ?_
  refine' triL_and [_, _, _] [(3, _)] (dj := 14) (dr := 17) rfl rfl (fun g1 => ?_) ⟨_, rfl, rfl, rfl, (.cons rfl (.nil _))⟩ rfl ?_
  rotate_left
  · skip
    skip
    refine o_move rfl rfl ?_
    refine o_lenS Try.underlying23 rfl rfl ?_
    refine o_eqlI rfl rfl rfl ?_
    exact triL_nil (Piece.mk rfl rfl (.cons rfl (.nil _)) (fun _ h => h))
  refine o_move rfl rfl ?_
  refine' triL_and [_, _, _, _] [(3, _)] (dj := 19) (dr := 23) rfl rfl (fun g2 => ?_) ⟨_, rfl, rfl, rfl, (.cons rfl (.nil _))⟩ rfl ?_
  rotate_left
  · skip
    skip
    refine o_lit (parts := [_, _, _, _, _, _, _, _, _]) (bytesV [49, 50, 51, 52, 53, 54, 55, 56, 57]) Try.underlying23 zs5 rfl rfl rfl rfl (by decide) (by decide) (fun b20 => ?_)
    refine o_mark Try.underlying23 Try.underlying5 (by first | exact Nth.z | exact .s .z | exact .s (.s .z) | exact .s (.s (.s .z)) | exact .s (.s (.s (.s .z))) | exact .s (.s (.s (.s (.s .z)))) | exact .s (.s (.s (.s (.s (.s .z))))) | exact .s (.s (.s (.s (.s (.s (.s .z))))))) rfl rfl ?_
    refine o_callP (first := []) (cap := []) rfl rfl rfl Try.call10 (fun w1 h1 => sumOf (some ⟨b20, 0, none⟩) 9 9 [49, 50, 51, 52, 53, 54, 55, 56, 57] w1 (h1.rd (RdS.frz .z)) rfl (by omega)) ?_
    refine o_eql32 _ 3808858755#32 rfl rfl rfl ?_
    exact triL_nil (Piece.mk rfl rfl (.cons rfl (.nil _)) (fun _ h => h.tail))
  refine o_move rfl rfl ?_
  refine' triL_and [_, _] [(3, _)] (dj := 25) (dr := 27) rfl rfl (fun g3 => ?_) ⟨_, rfl, rfl, rfl, (.cons rfl (.nil _))⟩ rfl ?_
  rotate_left
  · skip
    skip
    refine o_callP (first := []) (cap := []) (vs := [u32V 305419896#32, .slice none 0 0]) rfl rfl rfl Try.call12 (fun w1 h1 => sumMore 305419896#32 none 0 0 [] w1 (Rd.nil _ _) rfl (by omega)) ?_
    refine o_eql32 _ 305419896#32 rfl rfl rfl ?_
    exact triL_nil (Piece.mk rfl rfl (.cons rfl (.nil _)) (fun _ h => h))
  refine o_move rfl rfl ?_
  refine' triL_and [_, _, _] [(3, _)] (dj := 29) (dr := 32) rfl rfl (fun g4 => ?_) ⟨_, rfl, rfl, rfl, (.cons rfl (.nil _))⟩ rfl ?_
  rotate_left
  · skip
    skip
    refine o_move rfl rfl ?_
    refine o_lenS Try.underlying23 rfl rfl ?_
    refine o_eqlI rfl rfl rfl ?_
    exact triL_nil (Piece.mk rfl rfl (.cons rfl (.nil _)) (fun _ h => h))
  refine o_move rfl rfl ?_
  refine' triL_and [_, _, _, _] [] (dj := 34) (dr := 38) rfl rfl (fun g5 => ?_) ⟨_, rfl, rfl, rfl, (.nil _)⟩ rfl ?_
  rotate_left
  · skip
    skip
    refine o_move rfl rfl ?_
    refine o_idxS Try.underlying23 sz5 rfl rfl rfl (RdS.row .z) (by omega) (by omega) (by kernel_rfl) (by decide) ?_
    refine o_loadR agg5 rfl rfl (RdS.row .z) (rd_byte _ 9 rfl (by decide)) ?_
    refine o_eqlU8 _ 131 rfl rfl rfl ?_
    exact triL_nil (Piece.mk rfl rfl (.nil _) (fun _ h => h))
  refine o_assign rfl rfl ?_
  refine triL_nil ?_
  refine thenQ_normal ?_
  refine tri_ret ?_
  refine end1 rfl rfl ?_
  exact fun w1 h1 => ⟨congrArg (fun b => Ending.returned (.bool b)) (by kernel_rfl), h1.chg⟩

theorem sumIs (s : BitVec 32) (A : Option Addr) (n c : Nat) (l : List UInt8) (w : World) (hr : Rd w A (bytesV l)) (hn : l.length = n) (hm : n ≤ 140737488351232) : Calls Try.prog 3 #[u32V s, .slice A n c] w (Pure w (.bool true)) := by
  refine calls_tri (args := [u32V s, .slice A n c]) (lent := []) (H := []) Try.func3 rfl Try.ntmps3 rfl (Sat.start _ _ _ _) ?_
  refine (show Tri _ [(0, _), (1, _)] _ _ _ from ?_)
  have hR : ∀ cx H, cx.w0 = w → cx.lent = [] → RdS cx H A (bytesV l) := fun cx H h1 h2 => RdS.arg (by rw [h1]; exact hr) h2
  refine tri_seq ?_
  refine tri_region ?_
  refine o_assign rfl rfl ?_
  refine triL_nil ?_
  refine thenQ_normal ?_
  refine tri_seq ?_
  refine tri_region ?_
  refine o_move rfl rfl ?_
  refine o_callF (first := []) (cap := []) id rfl rfl rfl Try.call9 (fun w1 h1 => copy A n c l w1 (h1.rd (hR _ _ rfl rfl)) hn (by omega) (by omega)) (fun A7 c7 => ?_)
  refine o_assign rfl rfl ?_
  refine triL_nil ?_
  refine thenQ_normal ?_
  refine tri_seq ?_
  refine tri_region ?_
  refine o_move rfl rfl ?_
  refine o_callP (first := []) (cap := []) rfl rfl rfl Try.call10 (fun w1 h1 => sumOf A n c l w1 (h1.rd (hR _ _ rfl rfl)) hn (by omega)) ?_
  refine o_move rfl rfl ?_
  refine o_callP (first := []) (cap := []) rfl rfl rfl Try.call11 (fun w1 h1 => refOf A7 n c7 l w1 (h1.rd (RdS.row .z)) hn (by omega)) ?_
  refine o_eqlI rfl rfl rfl ?_
  refine o_move rfl rfl ?_
  refine' triL_and [_, _, _, _, _, _, _] [(5, _), (4, _), (1, _)] (dj := 13) (dr := 20) rfl rfl (fun g1 => ?_) ⟨_, rfl, rfl, rfl, (.cons rfl (.cons rfl (.cons rfl (.nil _))))⟩ rfl ?_
  rotate_left
  · skip
    skip
    refine o_move rfl rfl ?_
    refine o_move rfl rfl ?_
    refine o_callP (first := []) (cap := []) rfl rfl rfl Try.call12 (fun w1 h1 => sumMore s A n c l w1 (h1.rd (hR _ _ rfl rfl)) hn (by omega)) ?_
    refine o_move rfl rfl ?_
    refine o_move rfl rfl ?_
    refine o_callP (first := []) (cap := []) rfl rfl rfl Try.call13 (fun w1 h1 => refMore s A7 n c7 l w1 (h1.rd (RdS.row .z)) hn (by omega)) ?_
    refine o_eqlI rfl rfl rfl ?_
    exact triL_nil (Piece.mk rfl rfl (.cons rfl (.cons rfl (.cons rfl (.nil _)))) (fun _ h => h))
  refine o_move rfl rfl ?_
  refine' triL_and [_, _, _] [(4, _)] (dj := 22) (dr := 25) rfl rfl (fun g2 => ?_) ⟨_, rfl, rfl, rfl, (.cons rfl (.nil _))⟩ rfl ?_
  rotate_left
  · skip
    skip
    refine o_move rfl rfl ?_
    refine o_move rfl rfl ?_
    refine o_callP (first := []) (cap := []) rfl rfl rfl Try.call14 (fun w1 h1 => same A A7 n c n c7 l l w1 (h1.rd (hR _ _ rfl rfl)) hn.symm (h1.rd (RdS.row .z)) hn.symm) ?_
    exact triL_nil (Piece.mk rfl rfl (.cons rfl (.nil _)) (fun _ h => h))
  refine o_move rfl rfl ?_
  refine' triL_and [_] [(4, _)] (dj := 27) (dr := 28) rfl rfl (fun g3 => ?_) ⟨_, rfl, rfl, rfl, (.cons rfl (.nil _))⟩ rfl ?_
  rotate_left
  · skip
    skip
    refine o_callP (first := []) (cap := []) rfl rfl rfl Try.call15 (fun w1 h1 => alive w1) ?_
    exact triL_nil (Piece.mk rfl rfl (.cons rfl (.nil _)) (fun _ h => h))
  refine o_assign rfl rfl ?_
  refine triL_nil ?_
  refine thenQ_normal ?_
  refine tri_ret ?_
  refine end1 rfl rfl ?_
  exact fun w1 h1 => ⟨congrArg (fun b => Ending.returned (.bool b)) (by simp), h1.chg⟩

theorem sumParts (s : BitVec 32) (at_ : Int) (A : Option Addr) (n c : Nat) (l : List UInt8) (w : World) (hr : Rd w A (bytesV l)) (hn : l.length = n) (hm : n ≤ 140737488351232) (hc : n ≤ c) : Calls Try.prog 4 #[u32V s, .slice A n c, .int .i64 at_] w (Pure w (.bool true)) := by
  refine calls_tri (args := [u32V s, .slice A n c, .int .i64 at_]) (lent := []) (H := []) Try.func4 rfl Try.ntmps4 rfl (Sat.start _ _ _ _) ?_
  refine (show Tri _ [(0, _), (1, _), (2, _)] _ _ _ from ?_)
  have hR : ∀ cx H, cx.w0 = w → cx.lent = [] → RdS cx H A (bytesV l) := fun cx H h1 h2 => RdS.arg (by rw [h1]; exact hr) h2
  refine tri_seq ?_
  refine tri_region ?_
  refine o_assign rfl rfl ?_
  refine triL_nil ?_
  refine thenQ_normal ?_
  refine tri_seq ?_
  refine tri_region ?_
  refine o_assign rfl rfl ?_
  refine triL_nil ?_
  refine thenQ_normal ?_
  refine tri_join (ι := Nat) (fun q => [(0, u32V s), (1, .slice A n c), (7, .int .i64 (q : Int))]) (fun q => []) (fun q => q ≤ n) ?_ (fun q hj => ?_)
  · skip
    refine tri_seq ?_
    refine tri_region ?_
    refine o_move rfl rfl ?_
    refine o_lenS Try.underlying23 rfl rfl ?_
    refine o_gtr rfl rfl rfl ?_
    refine o_move rfl rfl ?_
    refine' triL_and [_, _] [(7, _), (0, _), (1, _), (2, _)] (dj := 13) (dr := 15) rfl rfl (fun g1 => ?_) ⟨_, rfl, rfl, rfl, (.cons rfl (.cons rfl (.cons rfl (.cons rfl (.nil _)))))⟩ rfl ?_
    rotate_left
    · skip
      have g1 := of_decide_eq_true g1
      refine o_move rfl rfl ?_
      refine o_geq rfl rfl rfl ?_
      exact triL_nil (Piece.mk rfl rfl (.cons rfl (.cons rfl (.cons rfl (.cons rfl (.nil _))))) (fun _ h => h))
    refine triL_nil ?_
    refine thenQ_normal ?_
    refine tri_cond rfl (fun h1 => ?_) (fun h1 => ?_)
    · skip
      simp only [Bool.and_eq_true, decide_eq_true_eq] at h1
      refine tri_region ?_
      refine o_move rfl rfl ?_
      refine o_move rfl rfl ?_
      refine o_lenS Try.underlying23 rfl rfl ?_
      refine o_addN rfl rfl rfl (by omega) ?_
      refine o_remN rfl rfl rfl (by omega) (by omega) ?_
      refine o_assign rfl rfl ?_
      refine triL_nil ?_
      refine thenQ_normal ?_
      have hq := Int.emod_lt_of_pos at_ (show (0 : Int) < n + 1 by omega)
      have hq0 := Int.emod_nonneg at_ (show (n : Int) + 1 ≠ 0 by omega)
      obtain ⟨q, hqe⟩ := Int.eq_ofNat_of_zero_le hq0
      exact ⟨q, (.cons rfl (.cons rfl (.cons (congrArg (fun k : Int => some (Value.int .i64 k)) hqe) (.nil _)))), fun _ h => h, by omega⟩
    · skip
      refine tri_skip ?_
      refine thenQ_normal ?_
      exact ⟨0, (.cons rfl (.cons rfl (.cons rfl (.nil _)))), fun _ h => h, Nat.zero_le _⟩
  refine tri_seq ?_
  refine tri_quiet (by kernel_rfl) (by kernel_rfl) ?_
  refine o_move rfl rfl ?_
  refine o_move rfl rfl ?_
  refine o_move rfl rfl ?_
  refine o_sliceSh Try.underlying23 sz5 rfl rfl rfl (by omega) (by omega) ?_
  refine o_callP (first := []) (cap := []) rfl rfl rfl Try.call12 (fun w1 h1 => sumMore s A _ c (l.take q) w1 (by rw [bytesV_take]; exact ((h1.rd (hR _ _ rfl rfl)).take q)) (by simp; omega) (by omega)) ?_
  refine o_move rfl rfl ?_
  refine o_move rfl rfl ?_
  refine o_sliceSl Try.underlying23 sz5 rfl rfl rfl (by omega) (by omega) (by omega) ?_
  refine o_callP (first := []) (cap := []) rfl rfl rfl Try.call12 (fun w1 h1 => sumMore _ _ _ _ (l.drop q) w1 (by rw [bytesV_drop]; have := (h1.rd (hR _ _ rfl rfl)).cut (n := n) (cap := c) (l := q) (s := 1) (by rw [bytesV_length]; omega) (by omega) hc; rw [Nat.mul_one] at this; exact this) (by simp; omega) (by omega)) ?_
  refine o_assign rfl rfl ?_
  refine triL_nil ?_
  refine thenQ_normal ?_
  refine tri_seq ?_
  refine tri_slots [(8, _), (0, _), (1, _), (7, _)] (.cons rfl (.cons rfl (.cons rfl (.cons rfl (.nil _))))) ?_
  refine tri_quiet (by kernel_rfl) (by kernel_rfl) ?_
  refine o_move rfl rfl ?_
  refine o_move rfl rfl ?_
  refine o_sliceSh Try.underlying23 sz5 rfl rfl rfl (by omega) (by omega) ?_
  refine o_callP (first := []) (cap := []) rfl rfl rfl Try.call10 (fun w1 h1 => sumOf A _ c (l.take q) w1 (by rw [bytesV_take]; exact ((h1.rd (hR _ _ rfl rfl)).take q)) (by simp; omega) (by omega)) ?_
  refine o_move rfl rfl ?_
  refine o_move rfl rfl ?_
  refine o_sliceSl Try.underlying23 sz5 rfl rfl rfl (by omega) (by omega) (by omega) ?_
  refine o_callP (first := []) (cap := []) rfl rfl rfl Try.call12 (fun w1 h1 => sumMore _ _ _ _ (l.drop q) w1 (by rw [bytesV_drop]; have := (h1.rd (hR _ _ rfl rfl)).cut (n := n) (cap := c) (l := q) (s := 1) (by rw [bytesV_length]; omega) (by omega) hc; rw [Nat.mul_one] at this; exact this) (by simp; omega) (by omega)) ?_
  refine o_assign rfl rfl ?_
  refine triL_nil ?_
  refine thenQ_normal ?_
  refine tri_seq ?_
  refine tri_slots [(9, _), (8, _), (0, _), (1, _)] (.cons rfl (.cons rfl (.cons rfl (.cons rfl (.nil _))))) ?_
  refine tri_region ?_
  refine o_move rfl rfl ?_
  refine o_move rfl rfl ?_
  refine o_move rfl rfl ?_
  refine o_callP (first := []) (cap := []) rfl rfl rfl Try.call12 (fun w1 h1 => sumMore s A n c l w1 (h1.rd (hR _ _ rfl rfl)) hn (by omega)) ?_
  refine o_eql32 _ _ rfl rfl rfl ?_
  refine o_move rfl rfl ?_
  refine' triL_and [_, _, _, _] [] (dj := 44) (dr := 48) rfl rfl (fun g2 => ?_) ⟨_, rfl, rfl, rfl, (.nil _)⟩ rfl ?_
  rotate_left
  · skip
    skip
    refine o_move rfl rfl ?_
    refine o_move rfl rfl ?_
    refine o_callP (first := []) (cap := []) rfl rfl rfl Try.call10 (fun w1 h1 => sumOf A n c l w1 (h1.rd (hR _ _ rfl rfl)) hn (by omega)) ?_
    refine o_eql32 _ _ rfl rfl rfl ?_
    exact triL_nil (Piece.mk rfl rfl (.nil _) (fun _ h => h))
  refine o_move rfl rfl ?_
  refine' triL_and [_] [] (dj := 50) (dr := 51) rfl rfl (fun g3 => ?_) ⟨_, rfl, rfl, rfl, (.nil _)⟩ rfl ?_
  rotate_left
  · skip
    skip
    refine o_callP (first := []) (cap := []) rfl rfl rfl Try.call15 (fun w1 h1 => alive w1) ?_
    exact triL_nil (Piece.mk rfl rfl (.nil _) (fun _ h => h))
  refine o_assign rfl rfl ?_
  refine triL_nil ?_
  refine thenQ_normal ?_
  refine tri_ret ?_
  refine end1 rfl rfl ?_
  have e1 : more (more s (l.take q)) (l.drop q) = more s l := by rw [← more_append, List.take_append_drop]
  have e2 : more (more 0#32 (l.take q)) (l.drop q) = more 0#32 l := by rw [← more_append, List.take_append_drop]
  exact fun w1 h1 => ⟨congrArg (fun b => Ending.returned (.bool b)) (by rw [e1, e2]; simp), h1.chg⟩

theorem sumBack (A : Option Addr) (n c : Nat) (l : List UInt8) (w : World) (hr : Rd w A (bytesV l)) (hn : l.length = n) (hm : n ≤ 140737488351232) : Calls Try.prog 6 #[.slice A n c] w (Pure w (.bool true)) := by
  refine calls_tri (args := [.slice A n c]) (lent := []) (H := []) Try.func6 rfl Try.ntmps6 rfl (Sat.start _ _ _ _) ?_
  refine (show Tri _ [(0, _)] _ _ _ from ?_)
  have hR : ∀ cx H, cx.w0 = w → cx.lent = [] → RdS cx H A (bytesV l) := fun cx H h1 h2 => RdS.arg (by rw [h1]; exact hr) h2
  refine tri_seq ?_
  refine tri_region ?_
  refine o_assign rfl rfl ?_
  refine triL_nil ?_
  refine thenQ_normal ?_
  refine tri_seq ?_
  refine tri_region ?_
  refine o_move rfl rfl ?_
  refine o_callF (first := []) (cap := []) id rfl rfl rfl Try.call16 (fun w1 h1 => seal1 A n c l w1 (h1.rd (hR _ _ rfl rfl)) hn (by omega)) (fun A7 c7 => ?_)
  refine TriX.know (fun w1 h1 => own_cap (h1.holds _ List.mem_cons_self)) (fun hc7 => ?_)
  refine o_assign rfl rfl ?_
  refine triL_nil ?_
  refine thenQ_normal ?_
  refine tri_seq ?_
  refine tri_region ?_
  refine o_move rfl rfl ?_
  refine o_callF (first := []) (cap := []) (fun v => .tuple #[v, .bool true]) rfl rfl rfl Try.call17 (fun w1 h1 => (open1 A7 (n + 4) c7 (sealed l) w1 (h1.rd (RdS.row .z)) (by simp [sealed, le4_len]; omega) (by omega) hc7).mono fun e w' h => h.elim (fun hh => hh.2) (fun hh => absurd hh.1 (by rw [openB_sealed]; simp))) (fun A10 c10 => ?_)
  refine o_move rfl rfl ?_
  refine o_extract rfl rfl rfl ?_
  refine o_extract rfl rfl rfl ?_
  refine o_assign rfl rfl ?_
  refine o_assign rfl rfl ?_
  refine triL_nil ?_
  refine thenQ_normal ?_
  refine tri_seq ?_
  refine tri_slots [(5, _), (4, _), (3, _), (0, _)] (.cons rfl (.cons rfl (.cons rfl (.cons rfl (.nil _))))) ?_
  refine tri_region ?_
  refine o_move rfl rfl ?_
  refine o_move rfl rfl ?_
  refine' triL_and [_, _, _] [(3, _), (0, _)] (dj := 14) (dr := 17) rfl rfl (fun g1 => ?_) ⟨_, rfl, rfl, rfl, (.cons rfl (.cons rfl (.nil _)))⟩ rfl ?_
  rotate_left
  · skip
    skip
    refine o_move rfl rfl ?_
    refine o_move rfl rfl ?_
    refine o_callP (first := []) (cap := []) rfl rfl rfl Try.call14 (fun w1 h1 => same A10 A _ c10 n c ((sealed l).take ((sealed l).length - 4)) l w1 (h1.rd (RdS.row .z)) (by simp) (h1.rd (hR _ _ rfl rfl)) hn.symm) ?_
    exact triL_nil (Piece.mk rfl rfl (.cons rfl (.cons rfl (.nil _))) (fun _ h => h))
  refine o_move rfl rfl ?_
  refine' triL_and [_, _, _, _, _, _] [(3, _), (0, _)] (dj := 19) (dr := 25) rfl rfl (fun g2 => ?_) ⟨_, rfl, rfl, rfl, (.cons rfl (.cons rfl (.nil _)))⟩ rfl ?_
  rotate_left
  · skip
    skip
    refine o_move rfl rfl ?_
    refine o_lenS Try.underlying23 rfl rfl ?_
    refine o_subN rfl rfl rfl (by omega) ?_
    refine o_move rfl rfl ?_
    refine o_lenS Try.underlying23 rfl rfl ?_
    refine o_eqlI rfl rfl rfl ?_
    exact triL_nil (Piece.mk rfl rfl (.cons rfl (.cons rfl (.nil _))) (fun _ h => h))
  refine o_move rfl rfl ?_
  refine' triL_and [_, _, _, _, _, _] [] (dj := 27) (dr := 33) rfl rfl (fun g3 => ?_) ⟨_, rfl, rfl, rfl, (.nil _)⟩ rfl ?_
  rotate_left
  · skip
    skip
    refine o_move rfl rfl ?_
    refine o_move rfl rfl ?_
    refine o_lenS Try.underlying23 rfl rfl ?_
    refine o_sliceSh Try.underlying23 sz5 rfl rfl rfl (by omega) (by omega) ?_
    refine o_move rfl rfl ?_
    refine o_callP (first := []) (cap := []) rfl rfl rfl Try.call14 (fun w1 h1 => same A7 A _ c7 n c ((sealed l).take n) l w1 (by rw [bytesV_take]; exact (h1.rd (RdS.row (.s .z))).take n) (by simp [sealed]; omega) (h1.rd (hR _ _ rfl rfl)) hn.symm) ?_
    exact triL_nil (Piece.mk rfl rfl (.nil _) (fun _ h => h))
  refine o_move rfl rfl ?_
  refine' triL_and [_] [] (dj := 35) (dr := 36) rfl rfl (fun g4 => ?_) ⟨_, rfl, rfl, rfl, (.nil _)⟩ rfl ?_
  rotate_left
  · skip
    skip
    refine o_callP (first := []) (cap := []) rfl rfl rfl Try.call15 (fun w1 h1 => alive w1) ?_
    exact triL_nil (Piece.mk rfl rfl (.nil _) (fun _ h => h))
  refine o_assign rfl rfl ?_
  refine triL_nil ?_
  refine thenQ_normal ?_
  refine tri_ret ?_
  refine end1 rfl rfl ?_
  have e1 : (sealed l).take ((sealed l).length - 4) = l := by simp [sealed, le4_len]
  have e2 : (sealed l).take n = l := by rw [← hn]; simp [sealed]
  exact fun w1 h1 => ⟨congrArg (fun b => Ending.returned (.bool b)) (by rw [e1, e2]; simp), h1.chg⟩

end Go.Proofs.Ytijnbnlmmapgbaa
