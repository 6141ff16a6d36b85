/- the laws of keys, walked -/
import Derived.Test.YtidnfamnigbbmaaWalks2
import Derived.Test.YtidnfamnigbbmaaKeys2
namespace Go.Proofs.Ytidnfamnigbbmaa
open Go.WK Go.RowKit 



theorem awakeK  (w : World)  : Calls Try.prog 11 #[] w (Pure w (.bool true)) := by
  refine calls_tri (args := []) (lent := []) (H := []) Try.func11 rfl Try.ntmps11 rfl (Sat.start _ _ _ _) ?_
  refine (show Tri _ [] _ _ _ from ?_)
  refine tri_seq ?_
  refine tri_region ?_
  refine o_assign rfl rfl ?_
  refine triL_nil ?_
  refine thenQ_normal ?_
  refine tri_seq ?_
  refine tri_region ?_
  refine o_build bval28 rfl rfl ?_
  refine o_build (bval28_0_1 _ _) rfl rfl ?_
  refine o_build (bval28_0_2 2 [97]) rfl rfl ?_
  refine o_lit (parts := [_, _, _]) (valsV [⟨0, 0, []⟩, ⟨3, 1, []⟩, ⟨2, 0, [97]⟩]) Try.underlying22 zs28 rfl rfl rfl rfl (by decide) (by decide) (fun b9 => ?_)
  refine o_callP (first := []) (cap := []) rfl rfl rfl Try.call12 (fun w1 h1 => encK (some ⟨b9, 0, none⟩) 3 3 [⟨0, 0, []⟩, ⟨3, 1, []⟩, ⟨2, 0, [97]⟩] w1 (h1.rd (RdS.row .z)) rfl (by omega) (by intro v hv; simp only [List.mem_cons, List.not_mem_nil, or_false] at hv; rcases hv with rfl | rfl | rfl <;> simp [Val.ok]) (by intro v hv; simp only [List.mem_cons, List.not_mem_nil, or_false] at hv; rcases hv with rfl | rfl | rfl <;> simp)) ?_
  rw [show encR [⟨0, 0, []⟩, ⟨3, 1, []⟩, ⟨2, 0, [97]⟩] = ([1, 3, 5, 97, 0, 1], 0) by kernel_rfl]
  refine o_move rfl rfl ?_
  refine o_extract rfl rfl rfl ?_
  refine o_extract rfl rfl rfl ?_
  refine o_assign rfl rfl ?_
  refine o_assign rfl rfl ?_
  refine triL_nil ?_
  refine thenQ_normal ?_
  refine tri_seq ?_
  refine tri_slots [(2, _), (1, _)] (.cons rfl (.cons rfl (.nil _))) ?_
  refine tri_region ?_
  refine o_callF (first := []) (cap := []) (vs := [.string (B [2, 1])]) (fun v => .tuple #[v, .int .i64 (dcode [2, 1])]) rfl rfl rfl Try.call9 (fun w1 h1 => (decK [2, 1] w1 (by decide)).mono fun e w' h => h.new) (fun A14 c14 => ?_)
  rw [show dl [2, 1] = [⟨3, 0, []⟩, ⟨0, 0, []⟩] by kernel_rfl, show dcode [2, 1] = 0 by kernel_rfl]
  refine o_move rfl rfl ?_
  refine o_extract rfl rfl rfl ?_
  refine o_extract rfl rfl rfl ?_
  refine o_assign rfl rfl ?_
  refine o_assign rfl rfl ?_
  refine triL_nil ?_
  refine thenQ_normal ?_
  refine tri_seq ?_
  refine tri_slots [(4, _), (3, _), (2, _), (1, _)] (.cons rfl (.cons rfl (.cons rfl (.cons rfl (.nil _))))) ?_
  refine tri_region ?_
  refine o_move rfl rfl ?_
  refine o_eqlT (m := [1, 3, 5, 97, 0, 1]) rfl rfl rfl ?_
  refine o_move rfl rfl ?_
  refine' triL_and [_, _] [(4, _), (3, _)] (dj := 19) (dr := 21) rfl rfl (fun g1 => ?_) ⟨_, rfl, rfl, rfl, (.cons rfl (.cons rfl (.nil _)))⟩ rfl ?_
  rotate_left
  · skip
    skip
    refine o_move rfl rfl ?_
    refine o_eqlI rfl rfl rfl ?_
    exact triL_nil (Piece.mk rfl rfl (.cons rfl (.cons rfl (.nil _))) (fun _ h => h))
  refine o_move rfl rfl ?_
  refine' triL_and [_, _] [(3, _)] (dj := 23) (dr := 25) rfl rfl (fun g2 => ?_) ⟨_, rfl, rfl, rfl, (.cons rfl (.nil _))⟩ rfl ?_
  rotate_left
  · skip
    skip
    refine o_move rfl rfl ?_
    refine o_eqlI rfl rfl rfl ?_
    exact triL_nil (Piece.mk rfl rfl (.cons rfl (.nil _)) (fun _ h => h))
  refine o_move rfl rfl ?_
  refine' triL_and [_, _, _] [(3, _)] (dj := 27) (dr := 30) rfl rfl (fun g3 => ?_) ⟨_, rfl, rfl, rfl, (.cons rfl (.nil _))⟩ rfl ?_
  rotate_left
  · skip
    skip
    refine o_move rfl rfl ?_
    refine o_lenS Try.underlying22 rfl rfl ?_
    refine o_eqlI rfl rfl rfl ?_
    exact triL_nil (Piece.mk rfl rfl (.cons rfl (.nil _)) (fun _ h => h))
  refine o_move rfl rfl ?_
  refine' triL_and [_, _, _, _, _] [] (dj := 32) (dr := 37) rfl rfl (fun g4 => ?_) ⟨_, rfl, rfl, rfl, (.nil _)⟩ rfl ?_
  rotate_left
  · skip
    skip
    refine o_move rfl rfl ?_
    refine o_idxS Try.underlying22 sz28 rfl rfl rfl (RdS.row .z) (by decide) (by decide) (by kernel_rfl) (by decide) ?_
    refine o_loadV 0 agg28 sz28 rfl rfl (RdS.row .z) rfl (by decide) ?_
    refine o_build (bval28_0 _) rfl rfl ?_
    refine o_eqlV flat28 rfl rfl rfl ?_
    exact triL_nil (Piece.mk rfl rfl (.nil _) (fun _ h => h))
  refine o_assign rfl rfl ?_
  refine triL_nil ?_
  refine thenQ_normal ?_
  refine tri_ret ?_
  refine end1 rfl rfl ?_
  exact fun w1 hw1 => ⟨congrArg (fun b => Ending.returned (.bool b)) (by kernel_rfl), hw1.chg⟩

theorem keysOrder (A : Option Addr) (n c : Nat) (l : List Val) (A2 : Option Addr) (n2 c2 : Nat) (l2 : List Val) (w : World) (hr : Rd w A (valsV l)) (hn : l.length = n) (hm : n ≤ 4398046510976) (ho : ∀ v ∈ l, v.ok) (hs : ∀ v ∈ l, v.s.length ≤ 140737488355328) (hc : n ≤ c) (hr2 : Rd w A2 (valsV l2)) (hn2 : l2.length = n2) (hm2 : n2 ≤ 4398046510976) (ho2 : ∀ v ∈ l2, v.ok) (hs2 : ∀ v ∈ l2, v.s.length ≤ 140737488355328) (hc2 : n2 ≤ c2) : Calls Try.prog 4 #[.slice A n c, .slice A2 n2 c2] w (Pure w (.bool true)) := by
  refine calls_tri (args := [.slice A n c, .slice A2 n2 c2]) (lent := []) (H := []) Try.func4 rfl Try.ntmps4 rfl (Sat.start _ _ _ _) ?_
  refine (show Tri _ [(0, _), (1, _)] _ _ _ from ?_)
  have hR : ∀ cx H, cx.w0 = w → cx.lent = [] → RdS cx H A (valsV l) := fun cx H h1 h2 => RdS.arg (by rw [h1]; exact hr) h2
  have hR2 : ∀ cx H, cx.w0 = w → cx.lent = [] → RdS cx H A2 (valsV l2) := fun cx H h1 h2 => RdS.arg (by rw [h1]; exact hr2) h2
  refine tri_seq ?_
  refine tri_region ?_
  refine o_assign rfl rfl ?_
  refine triL_nil ?_
  refine thenQ_normal ?_
  refine tri_seq ?_
  refine tri_region ?_
  refine o_move rfl rfl ?_
  refine o_callF (first := []) (cap := []) less1 rfl rfl rfl Try.call13 (fun w1 h1 => lent4 A n c l w1 (h1.rd (hR _ _ rfl rfl)) hn (by omega) (by omega)) (fun A12 c12 => ?_)
  refine (show TriX _ _ _ ((12, Value.slice A12 n c12) :: _) _ _ _ from ?_)
  refine o_callP (first := []) (cap := []) rfl rfl rfl Try.call12 (fun w1 h1 => encK A12 n c12 l w1 (by have h := (h1.rd (RdS.row .z)).take (n * 3); rw [valsV_take, ← hn, List.take_left] at h; exact h) hn (by omega) ho hs) ?_
  refine o_move rfl rfl ?_
  refine o_extract rfl rfl rfl ?_
  refine o_extract rfl rfl rfl ?_
  refine o_assign rfl rfl ?_
  refine o_assign rfl rfl ?_
  refine triL_nil ?_
  refine thenQ_normal ?_
  refine tri_seq ?_
  refine tri_slots [(6, _), (5, _), (0, _), (1, _)] (.cons rfl (.cons rfl (.cons rfl (.cons rfl (.nil _))))) ?_
  refine tri_region ?_
  refine o_move rfl rfl ?_
  refine o_callF (first := []) (cap := []) less1 rfl rfl rfl Try.call13 (fun w1 h1 => lent4 A2 n2 c2 l2 w1 (h1.rd (hR2 _ _ rfl rfl)) hn2 (by omega) (by omega)) (fun A18 c18 => ?_)
  refine (show TriX _ _ _ ((18, Value.slice A18 n2 c18) :: _) _ _ _ from ?_)
  refine o_callP (first := []) (cap := []) rfl rfl rfl Try.call12 (fun w1 h1 => encK A18 n2 c18 l2 w1 (by have h := (h1.rd (RdS.row .z)).take (n2 * 3); rw [valsV_take, ← hn2, List.take_left] at h; exact h) hn2 (by omega) ho2 hs2) ?_
  refine o_move rfl rfl ?_
  refine o_extract rfl rfl rfl ?_
  refine o_extract rfl rfl rfl ?_
  refine o_assign rfl rfl ?_
  refine o_assign rfl rfl ?_
  refine triL_nil ?_
  refine thenQ_normal ?_
  refine tri_seq ?_
  refine tri_seq ?_
  refine tri_slots [(8, _), (7, _), (6, _), (5, _), (0, _), (1, _)] (.cons rfl (.cons rfl (.cons rfl (.cons rfl (.cons rfl (.cons rfl (.nil _))))))) ?_
  refine tri_region ?_
  refine o_move rfl rfl ?_
  refine o_neqI rfl rfl rfl ?_
  refine o_move rfl rfl ?_
  refine' triL_or [_, _] [(7, _), (5, _), (0, _), (1, _)] (dj := 24) (dr := 26) rfl rfl (fun g1 => ?_) ⟨_, rfl, rfl, rfl, (.cons rfl (.cons rfl (.cons rfl (.cons rfl (.nil _)))))⟩ rfl ?_
  rotate_left
  · skip
    skip
    refine o_move rfl rfl ?_
    refine o_neqI rfl rfl rfl ?_
    exact triL_nil (Piece.mk rfl rfl (.cons rfl (.cons rfl (.cons rfl (.cons rfl (.nil _))))) (fun _ h => h))
  refine triL_nil ?_
  refine thenQ_normal ?_
  refine tri_cond rfl (fun h0 => ?_) (fun h0 => ?_)
  · skip
    refine tri_seq ?_
    refine tri_slots [] (.nil _) ?_
    refine tri_region ?_
    refine o_callP (first := []) (cap := []) rfl rfl rfl Try.call11 (fun w1 h1 => awakeK w1) ?_
    refine o_assign rfl rfl ?_
    refine triL_nil ?_
    refine thenQ_normal ?_
    refine tri_ret ?_
    refine thenQ_ret ?_
    refine end1 rfl rfl ?_
    exact fun w1 hw1 => ⟨rfl, hw1.chg⟩
  · skip
    have h0 : (encR l).2 = 0 ∧ (encR l2).2 = 0 := by simpa using h0
    obtain ⟨e1, g1, _, _⟩ := encR_ok h0.1
    obtain ⟨e2, g2, _, _⟩ := encR_ok h0.2
    have ec := cmp_enc l l2 ⟨g1, ho⟩ ⟨g2, ho2⟩
    refine tri_skip ?_
    refine thenQ_normal ?_
    refine tri_seq ?_
    refine tri_region ?_
    refine o_move rfl rfl ?_
    refine o_move rfl rfl ?_
    refine o_callP (first := []) (cap := []) rfl rfl rfl Try.call14 (fun w1 h1 => order4 A n c l A2 n2 c2 l2 w1 (h1.rd (hR _ _ rfl rfl)) hn (by omega) (h1.rd (hR2 _ _ rfl rfl)) hn2 (by omega) hs hs2) ?_
    refine o_assign rfl rfl ?_
    refine triL_nil ?_
    refine thenQ_normal ?_
    refine tri_seq ?_
    refine tri_slots [(9, _), (7, _), (5, _)] (.cons rfl (.cons rfl (.cons rfl (.nil _)))) ?_
    refine tri_region ?_
    refine o_move rfl rfl ?_
    refine o_move rfl rfl ?_
    refine o_lssT rfl rfl rfl ?_
    refine o_move rfl rfl ?_
    refine o_lss rfl rfl rfl ?_
    refine o_eqlB rfl Try.underlying4 rfl rfl ?_
    refine o_move rfl rfl ?_
    refine' triL_and [_, _, _, _, _, _] [] (dj := 38) (dr := 44) rfl rfl (fun g2 => ?_) ⟨_, rfl, rfl, rfl, (.nil _)⟩ rfl ?_
    rotate_left
    · skip
      skip
      refine o_move rfl rfl ?_
      refine o_move rfl rfl ?_
      refine o_eqlT rfl rfl rfl ?_
      refine o_move rfl rfl ?_
      refine o_eqlI rfl rfl rfl ?_
      refine o_eqlB rfl Try.underlying4 rfl rfl ?_
      exact triL_nil (Piece.mk rfl rfl (.nil _) (fun _ h => h))
    refine o_move rfl rfl ?_
    refine' triL_and [_] [] (dj := 46) (dr := 47) rfl rfl (fun g3 => ?_) ⟨_, rfl, rfl, rfl, (.nil _)⟩ rfl ?_
    rotate_left
    · skip
      skip
      refine o_callP (first := []) (cap := []) rfl rfl rfl Try.call11 (fun w1 h1 => awakeK w1) ?_
      exact triL_nil (Piece.mk rfl rfl (.nil _) (fun _ h => h))
    refine o_assign rfl rfl ?_
    refine triL_nil ?_
    refine thenQ_normal ?_
    refine tri_ret ?_
    refine end1 rfl rfl ?_
    exact fun w1 hw1 => ⟨congrArg (fun b => Ending.returned (.bool b)) (by rw [e1, e2, cmpB_less, ec]; have := cmpB_zero (enc l) (enc l2); rw [ec] at this; simp [this]), hw1.chg⟩

theorem keysBetween (A : Option Addr) (n c : Nat) (l : List Val) (A2 : Option Addr) (n2 c2 : Nat) (l2 : List Val) (w : World) (hr : Rd w A (valsV l)) (hn : l.length = n) (hm : n ≤ 4398046510976) (ho : ∀ v ∈ l, v.ok) (hs : ∀ v ∈ l, v.s.length ≤ 140737488355328) (hc : n ≤ c) (hr2 : Rd w A2 (valsV l2)) (hn2 : l2.length = n2) (hm2 : n2 ≤ 4398046510976) (ho2 : ∀ v ∈ l2, v.ok) (hs2 : ∀ v ∈ l2, v.s.length ≤ 140737488355328) (hc2 : n2 ≤ c2) : Calls Try.prog 7 #[.slice A n c, .slice A2 n2 c2] w (Pure w (.bool true)) := by
  refine calls_tri (args := [.slice A n c, .slice A2 n2 c2]) (lent := []) (H := []) Try.func7 rfl Try.ntmps7 rfl (Sat.start _ _ _ _) ?_
  refine (show Tri _ [(0, _), (1, _)] _ _ _ from ?_)
  have hR : ∀ cx H, cx.w0 = w → cx.lent = [] → RdS cx H A (valsV l) := fun cx H h1 h2 => RdS.arg (by rw [h1]; exact hr) h2
  have hR2 : ∀ cx H, cx.w0 = w → cx.lent = [] → RdS cx H A2 (valsV l2) := fun cx H h1 h2 => RdS.arg (by rw [h1]; exact hr2) h2
  refine tri_seq ?_
  refine tri_region ?_
  refine o_assign rfl rfl ?_
  refine triL_nil ?_
  refine thenQ_normal ?_
  refine tri_seq ?_
  refine tri_region ?_
  refine o_move rfl rfl ?_
  refine o_callF (first := []) (cap := []) less1 rfl rfl rfl Try.call13 (fun w1 h1 => lent4 A2 n2 c2 l2 w1 (h1.rd (hR2 _ _ rfl rfl)) hn2 (by omega) (by omega)) (fun A19 c19 => ?_)
  refine (show TriX _ _ _ ((19, Value.slice A19 n2 c19) :: _) _ _ _ from ?_)
  refine o_callP (first := []) (cap := []) rfl rfl rfl Try.call12 (fun w1 h1 => encK A19 n2 c19 l2 w1 (by have h := (h1.rd (RdS.row .z)).take (n2 * 3); rw [valsV_take, ← hn2, List.take_left] at h; exact h) hn2 (by omega) ho2 hs2) ?_
  refine o_move rfl rfl ?_
  refine o_extract rfl rfl rfl ?_
  refine o_extract rfl rfl rfl ?_
  refine o_assign rfl rfl ?_
  refine o_assign rfl rfl ?_
  refine triL_nil ?_
  refine thenQ_normal ?_
  refine tri_seq ?_
  refine tri_slots [(6, _), (5, _), (0, _), (1, _)] (.cons rfl (.cons rfl (.cons rfl (.cons rfl (.nil _))))) ?_
  refine tri_region ?_
  refine o_move rfl rfl ?_
  refine o_callF (first := []) (cap := []) less1 rfl rfl rfl Try.call13 (fun w1 h1 => lent4 A n c l w1 (h1.rd (hR _ _ rfl rfl)) hn (by omega) (by omega)) (fun A25 c25 => ?_)
  refine (show TriX _ _ _ ((25, Value.slice A25 n c25) :: _) _ _ _ from ?_)
  refine o_callP (first := []) (cap := []) rfl rfl rfl Try.call16 (fun w1 h1 => fromK A25 n c25 l true w1 (by have h := (h1.rd (RdS.row .z)).take (n * 3); rw [valsV_take, ← hn, List.take_left] at h; exact h) hn (by omega) ho hs) ?_
  refine o_move rfl rfl ?_
  refine o_extract rfl rfl rfl ?_
  refine o_extract rfl rfl rfl ?_
  refine o_assign rfl rfl ?_
  refine o_assign rfl rfl ?_
  refine triL_nil ?_
  refine thenQ_normal ?_
  refine tri_seq ?_
  refine tri_slots [(8, _), (7, _), (6, _), (5, _), (0, _), (1, _)] (.cons rfl (.cons rfl (.cons rfl (.cons rfl (.cons rfl (.cons rfl (.nil _))))))) ?_
  refine tri_region ?_
  refine o_move rfl rfl ?_
  refine o_callF (first := []) (cap := []) less1 rfl rfl rfl Try.call13 (fun w1 h1 => lent4 A n c l w1 (h1.rd (hR _ _ rfl rfl)) hn (by omega) (by omega)) (fun A31 c31 => ?_)
  refine (show TriX _ _ _ ((31, Value.slice A31 n c31) :: _) _ _ _ from ?_)
  refine o_callP (first := []) (cap := []) rfl rfl rfl Try.call16 (fun w1 h1 => fromK A31 n c31 l false w1 (by have h := (h1.rd (RdS.row .z)).take (n * 3); rw [valsV_take, ← hn, List.take_left] at h; exact h) hn (by omega) ho hs) ?_
  refine o_move rfl rfl ?_
  refine o_extract rfl rfl rfl ?_
  refine o_extract rfl rfl rfl ?_
  refine o_assign rfl rfl ?_
  refine o_assign rfl rfl ?_
  refine triL_nil ?_
  refine thenQ_normal ?_
  refine tri_seq ?_
  refine tri_slots [(10, _), (9, _), (8, _), (7, _), (6, _), (5, _), (0, _), (1, _)] (.cons rfl (.cons rfl (.cons rfl (.cons rfl (.cons rfl (.cons rfl (.cons rfl (.cons rfl (.nil _))))))))) ?_
  refine tri_region ?_
  refine o_move rfl rfl ?_
  refine o_callF (first := []) (cap := []) less1 rfl rfl rfl Try.call13 (fun w1 h1 => lent4 A n c l w1 (h1.rd (hR _ _ rfl rfl)) hn (by omega) (by omega)) (fun A37 c37 => ?_)
  refine (show TriX _ _ _ ((37, Value.slice A37 n c37) :: _) _ _ _ from ?_)
  refine o_callP (first := []) (cap := []) rfl rfl rfl Try.call17 (fun w1 h1 => toK A37 n c37 l true w1 (by have h := (h1.rd (RdS.row .z)).take (n * 3); rw [valsV_take, ← hn, List.take_left] at h; exact h) hn (by omega) ho hs) ?_
  refine o_move rfl rfl ?_
  refine o_extract rfl rfl rfl ?_
  refine o_extract rfl rfl rfl ?_
  refine o_assign rfl rfl ?_
  refine o_assign rfl rfl ?_
  refine triL_nil ?_
  refine thenQ_normal ?_
  refine tri_seq ?_
  refine tri_slots [(12, _), (11, _), (10, _), (9, _), (8, _), (7, _), (6, _), (5, _), (0, _), (1, _)] (.cons rfl (.cons rfl (.cons rfl (.cons rfl (.cons rfl (.cons rfl (.cons rfl (.cons rfl (.cons rfl (.cons rfl (.nil _))))))))))) ?_
  refine tri_region ?_
  refine o_move rfl rfl ?_
  refine o_callF (first := []) (cap := []) less1 rfl rfl rfl Try.call13 (fun w1 h1 => lent4 A n c l w1 (h1.rd (hR _ _ rfl rfl)) hn (by omega) (by omega)) (fun A43 c43 => ?_)
  refine (show TriX _ _ _ ((43, Value.slice A43 n c43) :: _) _ _ _ from ?_)
  refine o_callP (first := []) (cap := []) rfl rfl rfl Try.call17 (fun w1 h1 => toK A43 n c43 l false w1 (by have h := (h1.rd (RdS.row .z)).take (n * 3); rw [valsV_take, ← hn, List.take_left] at h; exact h) hn (by omega) ho hs) ?_
  refine o_move rfl rfl ?_
  refine o_extract rfl rfl rfl ?_
  refine o_extract rfl rfl rfl ?_
  refine o_assign rfl rfl ?_
  refine o_assign rfl rfl ?_
  refine triL_nil ?_
  refine thenQ_normal ?_
  refine tri_seq ?_
  refine tri_seq ?_
  refine tri_slots [(14, _), (13, _), (12, _), (11, _), (10, _), (9, _), (8, _), (7, _), (6, _), (5, _), (0, _), (1, _)] (.cons rfl (.cons rfl (.cons rfl (.cons rfl (.cons rfl (.cons rfl (.cons rfl (.cons rfl (.cons rfl (.cons rfl (.cons rfl (.cons rfl (.nil _))))))))))))) ?_
  refine tri_region ?_
  refine o_move rfl rfl ?_
  refine o_move rfl rfl ?_
  refine o_neqI rfl rfl rfl ?_
  refine o_move rfl rfl ?_
  refine' triL_or [_, _, _] [(14, _), (13, _), (11, _), (9, _), (8, _), (7, _), (6, _), (5, _), (0, _), (1, _)] (dj := 50) (dr := 53) rfl rfl (fun g1 => ?_) ⟨_, rfl, rfl, rfl, (.cons rfl (.cons rfl (.cons rfl (.cons rfl (.cons rfl (.cons rfl (.cons rfl (.cons rfl (.cons rfl (.cons rfl (.nil _)))))))))))⟩ rfl ?_
  rotate_left
  · skip
    skip
    refine o_move rfl rfl ?_
    refine o_move rfl rfl ?_
    refine o_neqI rfl rfl rfl ?_
    exact triL_nil (Piece.mk rfl rfl (.cons rfl (.cons rfl (.cons rfl (.cons rfl (.cons rfl (.cons rfl (.cons rfl (.cons rfl (.cons rfl (.cons rfl (.nil _))))))))))) (fun _ h => h))
  refine o_move rfl rfl ?_
  refine' triL_or [_, _, _] [(13, _), (11, _), (9, _), (8, _), (7, _), (6, _), (5, _), (0, _), (1, _)] (dj := 55) (dr := 58) rfl rfl (fun g2 => ?_) ⟨_, rfl, rfl, rfl, (.cons rfl (.cons rfl (.cons rfl (.cons rfl (.cons rfl (.cons rfl (.cons rfl (.cons rfl (.cons rfl (.nil _))))))))))⟩ rfl ?_
  rotate_left
  · skip
    skip
    refine o_move rfl rfl ?_
    refine o_move rfl rfl ?_
    refine o_neqI rfl rfl rfl ?_
    exact triL_nil (Piece.mk rfl rfl (.cons rfl (.cons rfl (.cons rfl (.cons rfl (.cons rfl (.cons rfl (.cons rfl (.cons rfl (.cons rfl (.nil _)))))))))) (fun _ h => h))
  refine triL_nil ?_
  refine thenQ_normal ?_
  refine tri_cond rfl (fun h0 => ?_) (fun h0 => ?_)
  · skip
    exact absurd h0 (by simp [bey_code])
  · skip
    refine tri_skip ?_
    refine thenQ_normal ?_
    refine tri_seq ?_
    refine tri_seq ?_
    refine tri_region ?_
    refine o_move rfl rfl ?_
    refine o_neqI rfl rfl rfl ?_
    refine o_move rfl rfl ?_
    refine' triL_or [_, _] [(13, _), (11, _), (9, _), (7, _), (5, _), (0, _), (1, _)] (dj := 62) (dr := 64) rfl rfl (fun g3 => ?_) ⟨_, rfl, rfl, rfl, (.cons rfl (.cons rfl (.cons rfl (.cons rfl (.cons rfl (.cons rfl (.cons rfl (.nil _))))))))⟩ rfl ?_
    rotate_left
    · skip
      skip
      refine o_move rfl rfl ?_
      refine o_neqI rfl rfl rfl ?_
      exact triL_nil (Piece.mk rfl rfl (.cons rfl (.cons rfl (.cons rfl (.cons rfl (.cons rfl (.cons rfl (.cons rfl (.nil _)))))))) (fun _ h => h))
    refine triL_nil ?_
    refine thenQ_normal ?_
    refine tri_cond rfl (fun h1 => ?_) (fun h1 => ?_)
    · skip
      refine tri_seq ?_
      refine tri_slots [] (.nil _) ?_
      refine tri_region ?_
      refine o_callP (first := []) (cap := []) rfl rfl rfl Try.call11 (fun w1 h1 => awakeK w1) ?_
      refine o_assign rfl rfl ?_
      refine triL_nil ?_
      refine thenQ_normal ?_
      refine tri_ret ?_
      refine thenQ_ret ?_
      refine end1 rfl rfl ?_
      exact fun w1 hw1 => ⟨rfl, hw1.chg⟩
    · skip
      have h1 : (encR l2).2 = 0 ∧ (encR l).2 = 0 := by simpa [bey_code] using h1
      obtain ⟨e2, g2, _, _⟩ := encR_ok h1.1
      obtain ⟨e1, g1, _, _⟩ := encR_ok h1.2
      have c3 := less_bey ⟨g2, ho2⟩ ⟨g1, ho⟩
      have c4 := less_enc ⟨g2, ho2⟩ ⟨g1, ho⟩
      have hb : (decide (n ≤ n2) && decide (l2.take n = l)) = begR l2 l := by rw [begR, hn, hn2]
      have hB := bey_true h1.2
      refine tri_skip ?_
      refine thenQ_normal ?_
      refine tri_seq ?_
      refine tri_region ?_
      refine o_move rfl rfl ?_
      refine o_move rfl rfl ?_
      refine o_callP (first := []) (cap := []) rfl rfl rfl Try.call14 (fun w1 h1 => order4 A2 n2 c2 l2 A n c l w1 (h1.rd (hR2 _ _ rfl rfl)) hn2 (by omega) (h1.rd (hR _ _ rfl rfl)) hn (by omega) hs2 hs) ?_
      refine o_lss rfl rfl rfl ?_
      refine o_assign rfl rfl ?_
      refine triL_nil ?_
      refine thenQ_normal ?_
      refine tri_seq ?_
      refine tri_slots [(15, _), (13, _), (11, _), (9, _), (7, _), (5, _), (0, _), (1, _)] (.cons rfl (.cons rfl (.cons rfl (.cons rfl (.cons rfl (.cons rfl (.cons rfl (.cons rfl (.nil _))))))))) ?_
      refine tri_region ?_
      refine o_move rfl rfl ?_
      refine o_move rfl rfl ?_
      refine o_callP (first := []) (cap := []) rfl rfl rfl Try.call19 (fun w1 h1 => begins4 A2 n2 c2 l2 A n c l w1 (h1.rd (hR2 _ _ rfl rfl)) hn2 (by omega) (h1.rd (hR _ _ rfl rfl)) hn (by omega) hc2) ?_
      refine o_assign rfl rfl ?_
      refine triL_nil ?_
      refine thenQ_normal ?_
      refine tri_seq ?_
      refine tri_slots [(16, _), (15, _), (13, _), (11, _), (9, _), (7, _), (5, _)] (.cons rfl (.cons rfl (.cons rfl (.cons rfl (.cons rfl (.cons rfl (.cons rfl (.nil _)))))))) ?_
      refine tri_region ?_
      refine o_move rfl rfl ?_
      refine o_move rfl rfl ?_
      refine o_leqT rfl rfl rfl ?_
      refine o_move rfl rfl ?_
      refine o_not rfl rfl ?_
      refine o_eqlB rfl Try.underlying4 rfl rfl ?_
      refine o_move rfl rfl ?_
      refine' triL_and [_, _, _, _, _, _, _, _, _, _] [(16, _), (15, _), (13, _), (11, _), (5, _)] (dj := 80) (dr := 90) rfl rfl (fun g4 => ?_) ⟨_, rfl, rfl, rfl, (.cons rfl (.cons rfl (.cons rfl (.cons rfl (.cons rfl (.nil _))))))⟩ rfl ?_
      rotate_left
      · skip
        skip
        refine o_move rfl rfl ?_
        refine o_move rfl rfl ?_
        refine o_leqT rfl rfl rfl ?_
        refine o_move rfl rfl ?_
        refine o_not rfl rfl ?_
        refine o_move rfl rfl ?_
        refine' triL_and [_, _] [(83, _), (80, _), (16, _), (15, _), (13, _), (11, _), (5, _)] (dj := 86) (dr := 88) rfl rfl (fun g5 => ?_) ⟨_, rfl, rfl, rfl, (.cons rfl (.cons rfl (.cons rfl (.cons rfl (.cons rfl (.cons rfl (.cons rfl (.nil _))))))))⟩ rfl ?_
        rotate_left
        · skip
          skip
          refine o_move rfl rfl ?_
          refine o_not rfl rfl ?_
          exact triL_nil (Piece.mk rfl rfl (.cons rfl (.cons rfl (.cons rfl (.cons rfl (.cons rfl (.cons rfl (.cons rfl (.nil _)))))))) (fun _ h => h))
        refine o_eqlB rfl Try.underlying4 rfl rfl ?_
        exact triL_nil (Piece.mk rfl rfl (.cons rfl (.cons rfl (.cons rfl (.cons rfl (.cons rfl (.nil _)))))) (fun _ h => h))
      refine o_move rfl rfl ?_
      refine' triL_and [_, _, _, _, _, _, _, _] [(15, _), (13, _), (5, _)] (dj := 92) (dr := 100) rfl rfl (fun g6 => ?_) ⟨_, rfl, rfl, rfl, (.cons rfl (.cons rfl (.cons rfl (.nil _))))⟩ rfl ?_
      rotate_left
      · skip
        skip
        refine o_move rfl rfl ?_
        refine o_move rfl rfl ?_
        refine o_lssT rfl rfl rfl ?_
        refine o_move rfl rfl ?_
        refine o_move rfl rfl ?_
        refine' triL_or [_] [(95, _), (92, _), (15, _), (13, _), (5, _)] (dj := 97) (dr := 98) rfl rfl (fun g7 => ?_) ⟨_, rfl, rfl, rfl, (.cons rfl (.cons rfl (.cons rfl (.cons rfl (.cons rfl (.nil _))))))⟩ rfl ?_
        rotate_left
        · skip
          skip
          refine o_move rfl rfl ?_
          exact triL_nil (Piece.mk rfl rfl (.cons rfl (.cons rfl (.cons rfl (.cons rfl (.cons rfl (.nil _)))))) (fun _ h => h))
        refine o_eqlB rfl Try.underlying4 rfl rfl ?_
        exact triL_nil (Piece.mk rfl rfl (.cons rfl (.cons rfl (.cons rfl (.nil _)))) (fun _ h => h))
      refine o_move rfl rfl ?_
      refine' triL_and [_, _, _, _, _] [] (dj := 102) (dr := 107) rfl rfl (fun g8 => ?_) ⟨_, rfl, rfl, rfl, (.nil _)⟩ rfl ?_
      rotate_left
      · skip
        skip
        refine o_move rfl rfl ?_
        refine o_move rfl rfl ?_
        refine o_lssT rfl rfl rfl ?_
        refine o_move rfl rfl ?_
        refine o_eqlB rfl Try.underlying4 rfl rfl ?_
        exact triL_nil (Piece.mk rfl rfl (.nil _) (fun _ h => h))
      refine o_move rfl rfl ?_
      refine' triL_and [_] [] (dj := 109) (dr := 110) rfl rfl (fun g9 => ?_) ⟨_, rfl, rfl, rfl, (.nil _)⟩ rfl ?_
      rotate_left
      · skip
        skip
        refine o_callP (first := []) (cap := []) rfl rfl rfl Try.call11 (fun w1 h1 => awakeK w1) ?_
        exact triL_nil (Piece.mk rfl rfl (.nil _) (fun _ h => h))
      refine o_assign rfl rfl ?_
      refine triL_nil ?_
      refine thenQ_normal ?_
      refine tri_ret ?_
      refine end1 rfl rfl ?_
      exact fun w1 hw1 => ⟨congrArg (fun b => Ending.returned (.bool b)) (by rw [hb, less_or, less_or, Bool.not_true, Bool.not_false, bey_false, hB, e1, e2, c3, c4]; simp), hw1.chg⟩

theorem keysEncode (A : Option Addr) (n c : Nat) (l : List Val) (w : World) (hr : Rd w A (valsV l)) (hn : l.length = n) (hm : n ≤ 4398046510976) (ho : ∀ v ∈ l, v.ok) (hs : ∀ v ∈ l, v.s.length ≤ 140737488355328) (hc : n ≤ c) : Calls Try.prog 6 #[.slice A n c] w (Pure w (.bool true)) := by
  refine calls_tri (args := [.slice A n c]) (lent := []) (H := []) Try.func6 rfl Try.ntmps6 rfl (Sat.start _ _ _ _) ?_
  refine (show Tri _ [(0, _)] _ _ _ from ?_)
  have hR : ∀ cx H, cx.w0 = w → cx.lent = [] → RdS cx H A (valsV l) := fun cx H h1 h2 => RdS.arg (by rw [h1]; exact hr) h2
  have hel := encR_len l
  refine tri_seq ?_
  refine tri_region ?_
  refine o_assign rfl rfl ?_
  refine triL_nil ?_
  refine thenQ_normal ?_
  refine tri_seq ?_
  refine tri_region ?_
  refine o_move rfl rfl ?_
  refine o_callF (first := []) (cap := []) less1 rfl rfl rfl Try.call13 (fun w1 h1 => lent4 A n c l w1 (h1.rd (hR _ _ rfl rfl)) hn (by omega) (by omega)) (fun A17 c17 => ?_)
  refine TriX.know (fun w1 h1 => own_cap (h1.holds _ Nth.z.mem)) (fun hc17 => ?_)
  refine (show TriX _ _ _ ((17, Value.slice A17 n c17) :: _) _ _ _ from ?_)
  refine o_assign rfl rfl ?_
  refine triL_nil ?_
  refine thenQ_normal ?_
  refine tri_seq ?_
  refine tri_region ?_
  refine o_move rfl rfl ?_
  refine o_callP (first := []) (cap := []) rfl rfl rfl Try.call15 (fun w1 h1 => encR4 A n c l w1 (h1.rd (hR _ _ rfl rfl)) hn (by omega) ho hs) ?_
  refine o_move rfl rfl ?_
  refine o_extract rfl rfl rfl ?_
  refine o_extract rfl rfl rfl ?_
  refine o_assign rfl rfl ?_
  refine o_assign rfl rfl ?_
  refine triL_nil ?_
  refine thenQ_normal ?_
  refine tri_seq ?_
  refine tri_slots [(5, _), (4, _), (3, _), (0, _)] (.cons rfl (.cons rfl (.cons rfl (.cons rfl (.nil _))))) ?_
  refine tri_region ?_
  refine o_move rfl rfl ?_
  refine o_callP (first := []) (cap := []) rfl rfl rfl Try.call12 (fun w1 h1 => encK A17 n c17 l w1 (by have h := (h1.rd (RdS.row .z)).take (n * 3); rw [valsV_take, ← hn, List.take_left] at h; exact h) hn (by omega) ho hs) ?_
  refine o_move rfl rfl ?_
  refine o_extract rfl rfl rfl ?_
  refine o_extract rfl rfl rfl ?_
  refine o_assign rfl rfl ?_
  refine o_assign rfl rfl ?_
  refine triL_nil ?_
  refine thenQ_normal ?_
  refine tri_seq ?_
  refine tri_slots [(7, _), (6, _), (5, _), (4, _), (3, _), (0, _)] (.cons rfl (.cons rfl (.cons rfl (.cons rfl (.cons rfl (.cons rfl (.nil _))))))) ?_
  refine tri_region ?_
  refine o_move rfl rfl ?_
  refine o_callP (first := []) (cap := []) rfl rfl rfl Try.call16 (fun w1 h1 => fromK A17 n c17 l true w1 (by have h := (h1.rd (RdS.row .z)).take (n * 3); rw [valsV_take, ← hn, List.take_left] at h; exact h) hn (by omega) ho hs) ?_
  refine o_move rfl rfl ?_
  refine o_extract rfl rfl rfl ?_
  refine o_extract rfl rfl rfl ?_
  refine o_assign rfl rfl ?_
  refine o_assign rfl rfl ?_
  refine triL_nil ?_
  refine thenQ_normal ?_
  refine tri_seq ?_
  refine tri_slots [(9, _), (8, _), (7, _), (6, _), (5, _), (4, _), (3, _), (0, _)] (.cons rfl (.cons rfl (.cons rfl (.cons rfl (.cons rfl (.cons rfl (.cons rfl (.cons rfl (.nil _))))))))) ?_
  refine tri_region ?_
  refine o_move rfl rfl ?_
  refine o_callP (first := []) (cap := []) rfl rfl rfl Try.call16 (fun w1 h1 => fromK A17 n c17 l false w1 (by have h := (h1.rd (RdS.row .z)).take (n * 3); rw [valsV_take, ← hn, List.take_left] at h; exact h) hn (by omega) ho hs) ?_
  refine o_move rfl rfl ?_
  refine o_extract rfl rfl rfl ?_
  refine o_extract rfl rfl rfl ?_
  refine o_assign rfl rfl ?_
  refine o_assign rfl rfl ?_
  refine triL_nil ?_
  refine thenQ_normal ?_
  refine tri_seq ?_
  refine tri_slots [(11, _), (10, _), (9, _), (8, _), (7, _), (6, _), (5, _), (4, _), (3, _), (0, _)] (.cons rfl (.cons rfl (.cons rfl (.cons rfl (.cons rfl (.cons rfl (.cons rfl (.cons rfl (.cons rfl (.cons rfl (.nil _))))))))))) ?_
  refine tri_region ?_
  refine o_move rfl rfl ?_
  refine o_callP (first := []) (cap := []) rfl rfl rfl Try.call17 (fun w1 h1 => toK A17 n c17 l true w1 (by have h := (h1.rd (RdS.row .z)).take (n * 3); rw [valsV_take, ← hn, List.take_left] at h; exact h) hn (by omega) ho hs) ?_
  refine o_move rfl rfl ?_
  refine o_extract rfl rfl rfl ?_
  refine o_extract rfl rfl rfl ?_
  refine o_assign rfl rfl ?_
  refine o_assign rfl rfl ?_
  refine triL_nil ?_
  refine thenQ_normal ?_
  refine tri_seq ?_
  refine tri_slots [(13, _), (12, _), (11, _), (10, _), (9, _), (8, _), (7, _), (6, _), (5, _), (4, _), (3, _), (0, _)] (.cons rfl (.cons rfl (.cons rfl (.cons rfl (.cons rfl (.cons rfl (.cons rfl (.cons rfl (.cons rfl (.cons rfl (.cons rfl (.cons rfl (.nil _))))))))))))) ?_
  refine tri_region ?_
  refine o_move rfl rfl ?_
  refine o_callP (first := []) (cap := []) rfl rfl rfl Try.call17 (fun w1 h1 => toK A17 n c17 l false w1 (by have h := (h1.rd (RdS.row .z)).take (n * 3); rw [valsV_take, ← hn, List.take_left] at h; exact h) hn (by omega) ho hs) ?_
  refine o_move rfl rfl ?_
  refine o_extract rfl rfl rfl ?_
  refine o_extract rfl rfl rfl ?_
  refine o_assign rfl rfl ?_
  refine o_assign rfl rfl ?_
  refine triL_nil ?_
  refine thenQ_normal ?_
  refine tri_seq ?_
  refine tri_seq ?_
  refine tri_slots [(15, _), (14, _), (13, _), (12, _), (11, _), (10, _), (9, _), (8, _), (7, _), (6, _), (5, _), (4, _), (3, _), (0, _)] (.cons rfl (.cons rfl (.cons rfl (.cons rfl (.cons rfl (.cons rfl (.cons rfl (.cons rfl (.cons rfl (.cons rfl (.cons rfl (.cons rfl (.cons rfl (.cons rfl (.nil _))))))))))))))) ?_
  refine tri_region ?_
  refine o_move rfl rfl ?_
  refine o_move rfl rfl ?_
  refine o_neqI rfl rfl rfl ?_
  refine o_move rfl rfl ?_
  refine' triL_or [_, _, _] [(15, _), (14, _), (13, _), (12, _), (11, _), (10, _), (8, _), (6, _), (5, _), (4, _), (3, _), (0, _)] (dj := 51) (dr := 54) rfl rfl (fun g1 => ?_) ⟨_, rfl, rfl, rfl, (.cons rfl (.cons rfl (.cons rfl (.cons rfl (.cons rfl (.cons rfl (.cons rfl (.cons rfl (.cons rfl (.cons rfl (.cons rfl (.cons rfl (.nil _)))))))))))))⟩ rfl ?_
  rotate_left
  · skip
    skip
    refine o_move rfl rfl ?_
    refine o_move rfl rfl ?_
    refine o_neqI rfl rfl rfl ?_
    exact triL_nil (Piece.mk rfl rfl (.cons rfl (.cons rfl (.cons rfl (.cons rfl (.cons rfl (.cons rfl (.cons rfl (.cons rfl (.cons rfl (.cons rfl (.cons rfl (.cons rfl (.nil _))))))))))))) (fun _ h => h))
  refine o_move rfl rfl ?_
  refine' triL_or [_, _, _] [(15, _), (14, _), (13, _), (12, _), (10, _), (8, _), (6, _), (5, _), (4, _), (3, _), (0, _)] (dj := 56) (dr := 59) rfl rfl (fun g2 => ?_) ⟨_, rfl, rfl, rfl, (.cons rfl (.cons rfl (.cons rfl (.cons rfl (.cons rfl (.cons rfl (.cons rfl (.cons rfl (.cons rfl (.cons rfl (.cons rfl (.nil _))))))))))))⟩ rfl ?_
  rotate_left
  · skip
    skip
    refine o_move rfl rfl ?_
    refine o_move rfl rfl ?_
    refine o_neqI rfl rfl rfl ?_
    exact triL_nil (Piece.mk rfl rfl (.cons rfl (.cons rfl (.cons rfl (.cons rfl (.cons rfl (.cons rfl (.cons rfl (.cons rfl (.cons rfl (.cons rfl (.cons rfl (.nil _)))))))))))) (fun _ h => h))
  refine o_move rfl rfl ?_
  refine' triL_or [_, _, _] [(15, _), (14, _), (12, _), (10, _), (8, _), (6, _), (5, _), (4, _), (3, _), (0, _)] (dj := 61) (dr := 64) rfl rfl (fun g3 => ?_) ⟨_, rfl, rfl, rfl, (.cons rfl (.cons rfl (.cons rfl (.cons rfl (.cons rfl (.cons rfl (.cons rfl (.cons rfl (.cons rfl (.cons rfl (.nil _)))))))))))⟩ rfl ?_
  rotate_left
  · skip
    skip
    refine o_move rfl rfl ?_
    refine o_move rfl rfl ?_
    refine o_neqI rfl rfl rfl ?_
    exact triL_nil (Piece.mk rfl rfl (.cons rfl (.cons rfl (.cons rfl (.cons rfl (.cons rfl (.cons rfl (.cons rfl (.cons rfl (.cons rfl (.cons rfl (.nil _))))))))))) (fun _ h => h))
  refine o_move rfl rfl ?_
  refine' triL_or [_, _, _] [(14, _), (12, _), (10, _), (8, _), (6, _), (5, _), (4, _), (3, _), (0, _)] (dj := 66) (dr := 69) rfl rfl (fun g4 => ?_) ⟨_, rfl, rfl, rfl, (.cons rfl (.cons rfl (.cons rfl (.cons rfl (.cons rfl (.cons rfl (.cons rfl (.cons rfl (.cons rfl (.nil _))))))))))⟩ rfl ?_
  rotate_left
  · skip
    skip
    refine o_move rfl rfl ?_
    refine o_move rfl rfl ?_
    refine o_neqI rfl rfl rfl ?_
    exact triL_nil (Piece.mk rfl rfl (.cons rfl (.cons rfl (.cons rfl (.cons rfl (.cons rfl (.cons rfl (.cons rfl (.cons rfl (.cons rfl (.nil _)))))))))) (fun _ h => h))
  refine o_move rfl rfl ?_
  refine' triL_or [_, _, _] [(14, _), (12, _), (10, _), (8, _), (6, _), (5, _), (3, _), (0, _)] (dj := 71) (dr := 74) rfl rfl (fun g5 => ?_) ⟨_, rfl, rfl, rfl, (.cons rfl (.cons rfl (.cons rfl (.cons rfl (.cons rfl (.cons rfl (.cons rfl (.cons rfl (.nil _)))))))))⟩ rfl ?_
  rotate_left
  · skip
    skip
    refine o_move rfl rfl ?_
    refine o_move rfl rfl ?_
    refine o_neqT rfl rfl rfl ?_
    exact triL_nil (Piece.mk rfl rfl (.cons rfl (.cons rfl (.cons rfl (.cons rfl (.cons rfl (.cons rfl (.cons rfl (.cons rfl (.nil _))))))))) (fun _ h => h))
  refine o_move rfl rfl ?_
  refine' triL_or [_, _, _, _] [(14, _), (12, _), (10, _), (8, _), (6, _), (5, _)] (dj := 76) (dr := 80) rfl rfl (fun g6 => ?_) ⟨_, rfl, rfl, rfl, (.cons rfl (.cons rfl (.cons rfl (.cons rfl (.cons rfl (.cons rfl (.nil _)))))))⟩ rfl ?_
  rotate_left
  · skip
    skip
    refine o_move rfl rfl ?_
    refine o_move rfl rfl ?_
    refine o_callP (first := []) (cap := []) rfl rfl rfl Try.call18 (fun w1 h1 => kept4 A17 n c17 l ⟨77, 0, []⟩ A n c l w1 (h1.rd (RdS.row .z)) hn (by omega) hc17 (h1.rd (hR _ _ rfl rfl)) hn (by omega)) ?_
    refine o_not rfl rfl ?_
    exact triL_nil (Piece.mk rfl rfl (.cons rfl (.cons rfl (.cons rfl (.cons rfl (.cons rfl (.cons rfl (.nil _))))))) (fun _ h => h))
  refine triL_nil ?_
  refine thenQ_normal ?_
  refine tri_cond rfl (fun h0 => ?_) (fun h0 => ?_)
  · skip
    exact absurd h0 (by simp [bey_code])
  · skip
    refine tri_skip ?_
    refine thenQ_normal ?_
    refine tri_seq ?_
    refine tri_seq ?_
    refine tri_region ?_
    refine o_move rfl rfl ?_
    refine o_neqI rfl rfl rfl ?_
    refine triL_nil ?_
    refine thenQ_normal ?_
    refine tri_if rfl (fun h1 => ?_) (fun h1 => ?_)
    · skip
      have h1 : (encR l).2 ≠ 0 := h1
      refine tri_seq ?_
      refine tri_slots [(14, _), (12, _), (10, _), (8, _)] (.cons rfl (.cons rfl (.cons rfl (.cons rfl (.nil _))))) ?_
      refine tri_region ?_
      refine o_move rfl rfl ?_
      refine o_eqlT (m := []) rfl rfl rfl ?_
      refine o_move rfl rfl ?_
      refine' triL_and [_, _] [(14, _), (12, _)] (dj := 86) (dr := 88) rfl rfl (fun g7 => ?_) ⟨_, rfl, rfl, rfl, (.cons rfl (.cons rfl (.nil _)))⟩ rfl ?_
      rotate_left
      · skip
        skip
        refine o_move rfl rfl ?_
        refine o_eqlT (m := []) rfl rfl rfl ?_
        exact triL_nil (Piece.mk rfl rfl (.cons rfl (.cons rfl (.nil _))) (fun _ h => h))
      refine o_move rfl rfl ?_
      refine' triL_and [_, _] [(14, _)] (dj := 90) (dr := 92) rfl rfl (fun g8 => ?_) ⟨_, rfl, rfl, rfl, (.cons rfl (.nil _))⟩ rfl ?_
      rotate_left
      · skip
        skip
        refine o_move rfl rfl ?_
        refine o_eqlT (m := []) rfl rfl rfl ?_
        exact triL_nil (Piece.mk rfl rfl (.cons rfl (.nil _)) (fun _ h => h))
      refine o_move rfl rfl ?_
      refine' triL_and [_, _] [] (dj := 94) (dr := 96) rfl rfl (fun g9 => ?_) ⟨_, rfl, rfl, rfl, (.nil _)⟩ rfl ?_
      rotate_left
      · skip
        skip
        refine o_move rfl rfl ?_
        refine o_eqlT (m := []) rfl rfl rfl ?_
        exact triL_nil (Piece.mk rfl rfl (.nil _) (fun _ h => h))
      refine o_move rfl rfl ?_
      refine' triL_and [_] [] (dj := 98) (dr := 99) rfl rfl (fun g10 => ?_) ⟨_, rfl, rfl, rfl, (.nil _)⟩ rfl ?_
      rotate_left
      · skip
        skip
        refine o_callP (first := []) (cap := []) rfl rfl rfl Try.call11 (fun w1 h1 => awakeK w1) ?_
        exact triL_nil (Piece.mk rfl rfl (.nil _) (fun _ h => h))
      refine o_assign rfl rfl ?_
      refine triL_nil ?_
      refine thenQ_normal ?_
      refine tri_ret ?_
      refine thenQ_ret ?_
      refine end1 rfl rfl ?_
      exact fun w1 hw1 => ⟨congrArg (fun b => Ending.returned (.bool b)) (by simp [bey_bad h1]), hw1.chg⟩
    · skip
      have h1 : (encR l).2 = 0 := Decidable.not_not.1 h1
      refine tri_skip ?_
      refine thenQ_normal ?_
      refine tri_seq ?_
      refine tri_slots [(14, _), (12, _), (10, _), (8, _), (6, _)] (.cons rfl (.cons rfl (.cons rfl (.cons rfl (.cons rfl (.nil _)))))) ?_
      refine tri_region ?_
      refine o_move rfl rfl ?_
      refine o_move rfl rfl ?_
      refine o_eqlT rfl rfl rfl ?_
      refine o_move rfl rfl ?_
      refine' triL_and [_, _, _, _] [(14, _), (12, _), (10, _), (6, _)] (dj := 104) (dr := 108) rfl rfl (fun g11 => ?_) ⟨_, rfl, rfl, rfl, (.cons rfl (.cons rfl (.cons rfl (.cons rfl (.nil _)))))⟩ rfl ?_
      rotate_left
      · skip
        skip
        refine o_move rfl rfl ?_
        refine o_move rfl rfl ?_
        refine o_cat (m := [255]) rfl rfl rfl (by simp; omega) ?_
        refine o_eqlT rfl rfl rfl ?_
        exact triL_nil (Piece.mk rfl rfl (.cons rfl (.cons rfl (.cons rfl (.cons rfl (.nil _))))) (fun _ h => h))
      refine o_move rfl rfl ?_
      refine' triL_and [_, _, _] [(14, _), (6, _)] (dj := 110) (dr := 113) rfl rfl (fun g12 => ?_) ⟨_, rfl, rfl, rfl, (.cons rfl (.cons rfl (.nil _)))⟩ rfl ?_
      rotate_left
      · skip
        skip
        refine o_move rfl rfl ?_
        refine o_move rfl rfl ?_
        refine o_eqlT rfl rfl rfl ?_
        exact triL_nil (Piece.mk rfl rfl (.cons rfl (.cons rfl (.nil _))) (fun _ h => h))
      refine o_move rfl rfl ?_
      refine' triL_and [_, _, _] [] (dj := 115) (dr := 118) rfl rfl (fun g13 => ?_) ⟨_, rfl, rfl, rfl, (.nil _)⟩ rfl ?_
      rotate_left
      · skip
        skip
        refine o_move rfl rfl ?_
        refine o_move rfl rfl ?_
        refine o_eqlT rfl rfl rfl ?_
        exact triL_nil (Piece.mk rfl rfl (.nil _) (fun _ h => h))
      refine o_move rfl rfl ?_
      refine' triL_and [_] [] (dj := 120) (dr := 121) rfl rfl (fun g14 => ?_) ⟨_, rfl, rfl, rfl, (.nil _)⟩ rfl ?_
      rotate_left
      · skip
        skip
        refine o_callP (first := []) (cap := []) rfl rfl rfl Try.call11 (fun w1 h1 => awakeK w1) ?_
        exact triL_nil (Piece.mk rfl rfl (.nil _) (fun _ h => h))
      refine o_assign rfl rfl ?_
      refine triL_nil ?_
      refine thenQ_normal ?_
      refine tri_ret ?_
      refine end1 rfl rfl ?_
      exact fun w1 hw1 => ⟨congrArg (fun b => Ending.returned (.bool b)) (by rw [Bool.not_true, Bool.not_false, bey_false, bey_true h1]; simp), hw1.chg⟩

theorem keysDecode (s : List UInt8) (w : World) (hs : s.length ≤ 140737488355328) : Calls Try.prog 3 #[.string (B s)] w (Pure w (.bool true)) := by
  refine calls_tri (args := [.string (B s)]) (lent := []) (H := []) Try.func3 rfl Try.ntmps3 rfl (Sat.start _ _ _ _) ?_
  refine (show Tri _ [(0, _)] _ _ _ from ?_)
  have hd := (dl_good s).2
  refine tri_seq ?_
  refine tri_region ?_
  refine o_assign rfl rfl ?_
  refine triL_nil ?_
  refine thenQ_normal ?_
  refine tri_seq ?_
  refine tri_region ?_
  refine o_move rfl rfl ?_
  refine o_callF (first := []) (cap := []) (fun v => .tuple #[v, .int .i64 (dcode s)]) rfl rfl rfl Try.call8 (fun w1 h1 => (decR4 s w1 hs).mono fun e w' h => h.new) (fun A13 c13 => ?_)
  refine o_move rfl rfl ?_
  refine o_extract rfl rfl rfl ?_
  refine o_extract rfl rfl rfl ?_
  refine o_assign rfl rfl ?_
  refine o_assign rfl rfl ?_
  refine triL_nil ?_
  refine thenQ_normal ?_
  refine tri_seq ?_
  refine tri_slots [(4, _), (3, _), (0, _)] (.cons rfl (.cons rfl (.cons rfl (.nil _)))) ?_
  refine tri_region ?_
  refine o_move rfl rfl ?_
  refine o_callF (first := []) (cap := []) (fun v => .tuple #[v, .int .i64 (dcode s)]) rfl rfl rfl Try.call9 (fun w1 h1 => (decK s w1 hs).mono fun e w' h => h.new) (fun A18 c18 => ?_)
  refine o_move rfl rfl ?_
  refine o_extract rfl rfl rfl ?_
  refine o_extract rfl rfl rfl ?_
  refine o_assign rfl rfl ?_
  refine o_assign rfl rfl ?_
  refine triL_nil ?_
  refine thenQ_normal ?_
  refine tri_seq ?_
  refine tri_slots [(6, _), (5, _), (4, _), (3, _), (0, _)] (.cons rfl (.cons rfl (.cons rfl (.cons rfl (.cons rfl (.nil _)))))) ?_
  refine tri_region ?_
  refine o_move rfl rfl ?_
  refine o_callF (first := []) (cap := []) (fun v => .tuple #[v, .int .i64 (dcode s)]) rfl rfl rfl Try.call9 (fun w1 h1 => (decK s w1 hs).mono fun e w' h => h.new) (fun A23 c23 => ?_)
  refine o_move rfl rfl ?_
  refine o_extract rfl rfl rfl ?_
  refine o_extract rfl rfl rfl ?_
  refine o_assign rfl rfl ?_
  refine o_assign rfl rfl ?_
  refine triL_nil ?_
  refine thenQ_normal ?_
  refine tri_seq ?_
  refine tri_seq ?_
  refine tri_slots [(8, _), (7, _), (6, _), (5, _), (4, _), (3, _)] (.cons rfl (.cons rfl (.cons rfl (.cons rfl (.cons rfl (.cons rfl (.nil _))))))) ?_
  refine tri_region ?_
  refine o_move rfl rfl ?_
  refine o_move rfl rfl ?_
  refine o_neqI rfl rfl rfl ?_
  refine o_move rfl rfl ?_
  refine' triL_or [_, _, _] [(7, _), (5, _), (3, _)] (dj := 29) (dr := 32) rfl rfl (fun g1 => ?_) ⟨_, rfl, rfl, rfl, (.cons rfl (.cons rfl (.cons rfl (.nil _))))⟩ rfl ?_
  rotate_left
  · skip
    skip
    refine o_move rfl rfl ?_
    refine o_move rfl rfl ?_
    refine o_neqI rfl rfl rfl ?_
    exact triL_nil (Piece.mk rfl rfl (.cons rfl (.cons rfl (.cons rfl (.nil _)))) (fun _ h => h))
  refine o_move rfl rfl ?_
  refine' triL_or [_, _, _, _] [(7, _), (5, _), (3, _)] (dj := 34) (dr := 38) rfl rfl (fun g2 => ?_) ⟨_, rfl, rfl, rfl, (.cons rfl (.cons rfl (.cons rfl (.nil _))))⟩ rfl ?_
  rotate_left
  · skip
    skip
    refine o_move rfl rfl ?_
    refine o_move rfl rfl ?_
    refine o_callP (first := []) (cap := []) rfl rfl rfl Try.call10 (fun w1 h1 => same4 A18 _ c18 (dl s) A13 _ c13 (dl s) w1 (h1.rd (RdS.row (.s .z))) rfl (by omega) (h1.rd (RdS.row (.s (.s .z)))) rfl (by omega)) ?_
    refine o_not rfl rfl ?_
    exact triL_nil (Piece.mk rfl rfl (.cons rfl (.cons rfl (.cons rfl (.nil _)))) (fun _ h => h))
  refine o_move rfl rfl ?_
  refine' triL_or [_, _, _, _] [(7, _), (5, _), (3, _)] (dj := 40) (dr := 44) rfl rfl (fun g3 => ?_) ⟨_, rfl, rfl, rfl, (.cons rfl (.cons rfl (.cons rfl (.nil _))))⟩ rfl ?_
  rotate_left
  · skip
    skip
    refine o_move rfl rfl ?_
    refine o_move rfl rfl ?_
    refine o_callP (first := []) (cap := []) rfl rfl rfl Try.call10 (fun w1 h1 => same4 A23 _ c23 (dl s) A13 _ c13 (dl s) w1 (h1.rd (RdS.row .z)) rfl (by omega) (h1.rd (RdS.row (.s (.s .z)))) rfl (by omega)) ?_
    refine o_not rfl rfl ?_
    exact triL_nil (Piece.mk rfl rfl (.cons rfl (.cons rfl (.cons rfl (.nil _)))) (fun _ h => h))
  refine triL_nil ?_
  refine thenQ_normal ?_
  refine tri_cond rfl (fun h0 => ?_) (fun h0 => ?_)
  · skip
    exact absurd h0 (by simp)
  · skip
    refine tri_skip ?_
    refine thenQ_normal ?_
    refine tri_seq ?_
    refine tri_seq ?_
    refine tri_region ?_
    refine o_assign rfl rfl ?_
    refine triL_nil ?_
    refine thenQ_normal ?_
    refine tri_block ?_
    refine tri_loop (ι := Nat) (F := fun i => [(3, .slice A13 (dl s).length c13), (5, .slice A18 (dl s).length c18), (7, .slice A23 (dl s).length c23), (9, .int .i64 (i : Int))]) (HH := fun i => [row (.slice A23 (dl s).length c23) 28 3 (dl s).length (valsV (dl s)), row (.slice A18 (dl s).length c18) 28 3 (dl s).length (valsV (List.replicate i ⟨9, 0, []⟩ ++ (dl s).drop i)), row (.slice A13 (dl s).length c13) 28 3 (dl s).length (valsV (dl s))]) (Pu := fun i => i ≤ (dl s).length) (μ := fun i => (dl s).length - i) (0) (.cons rfl (.cons rfl (.cons rfl (.cons rfl (.nil _))))) (fun _ h => h) (Nat.zero_le _) (fun i hi => ?_)
    refine tri_seq ?_
    refine tri_seq ?_
    refine tri_region ?_
    refine o_move rfl rfl ?_
    refine o_move rfl rfl ?_
    refine o_lenS Try.underlying22 rfl rfl ?_
    refine o_lss rfl rfl rfl ?_
    refine triL_nil ?_
    refine thenQ_normal ?_
    refine tri_if rfl (fun h1 => ?_) (fun h1 => ?_)
    · skip
      refine tri_skip ?_
      refine thenQ_normal ?_
      refine tri_seq ?_
      refine tri_block ?_
      refine tri_slots [(3, _), (5, _), (7, _), (9, _)] (.cons rfl (.cons rfl (.cons rfl (.cons rfl (.nil _))))) ?_
      refine tri_region ?_
      refine o_move rfl rfl ?_
      refine o_move rfl rfl ?_
      refine o_build (bval28_0 _) rfl rfl ?_
      refine o_idxS Try.underlying22 sz28 rfl rfl rfl (RdS.row (.s .z)) (by omega) (by omega) (by rw [valsV_length]; simp; omega) (by decide) ?_
      refine o_storeRA sz28 (by first | exact Nth.z | exact .s .z | exact .s (.s .z) | exact .s (.s (.s .z)) | exact .s (.s (.s (.s .z))) | exact .s (.s (.s (.s (.s .z)))) | exact .s (.s (.s (.s (.s (.s .z))))) | exact .s (.s (.s (.s (.s (.s (.s .z))))))) rfl rfl rfl (vs := Val.cs _) rfl rfl (by decide) (by rw [valsV_length]; simp; omega) rfl ?_
      refine triL_nil ?_
      refine blockQ_normal ?_
      refine thenQ_normal ?_
      refine tri_slots [(3, _), (5, _), (7, _), (9, _)] (.cons rfl (.cons rfl (.cons rfl (.cons rfl (.nil _))))) ?_
      refine tri_region ?_
      refine o_move rfl rfl ?_
      refine o_addN rfl rfl rfl (by omega) ?_
      refine o_assign rfl rfl ?_
      refine triL_nil ?_
      refine thenQ_normal ?_
      exact ⟨i + 1, (.cons rfl (.cons rfl (.cons rfl (.cons rfl (.nil _))))), (fun w1 hw1 => by rw [← nine_step (dl s) i (by omega), ← valsV_set _ _ _ (by simp; omega)]; rw [show (i : Int).toNat * 3 = i * 3 by omega] at hw1; exact hw1), by omega, by omega⟩
    · skip
      refine tri_exit ?_
      refine thenQ_exit ?_
      refine thenQ_exit ?_
      refine blockQ_here ?_
      refine thenQ_normal ?_
      refine tri_seq ?_
      refine tri_slots [(3, _), (5, _), (7, _)] (.cons rfl (.cons rfl (.cons rfl (.nil _)))) ?_
      refine tri_region ?_
      refine o_move rfl rfl ?_
      refine o_build (bval28_0 _) rfl rfl ?_
      refine o_build (bval28_0 _) rfl rfl ?_
      refine o_lit (parts := [_, _]) (valsV [⟨8, 0, []⟩, ⟨8, 0, []⟩]) Try.underlying22 zs28 rfl rfl rfl rfl (by decide) (by decide) (fun b59 => ?_)
      refine o_append Try.underlying22 zsb28 rfl (by decide) (by first | exact Nth.z | exact .s .z | exact .s (.s .z) | exact .s (.s (.s .z)) | exact .s (.s (.s (.s .z))) | exact .s (.s (.s (.s (.s .z)))) | exact .s (.s (.s (.s (.s (.s .z))))) | exact .s (.s (.s (.s (.s (.s (.s .z))))))) rfl rfl rfl (news := valsV [⟨8, 0, []⟩, ⟨8, 0, []⟩]) (RdS.row .z) rfl (valsV_one _) (by unfold maxLen; omega) (by omega) (fun A60 c60 => ?_)
      refine o_assign rfl rfl ?_
      refine triL_nil ?_
      refine thenQ_normal ?_
      refine tri_seq ?_
      refine tri_slots [(10, _), (3, _), (7, _)] (.cons rfl (.cons rfl (.cons rfl (.nil _)))) ?_
      refine tri_region ?_
      refine o_move rfl rfl ?_
      refine o_move rfl rfl ?_
      refine o_callP (first := []) (cap := []) rfl rfl rfl Try.call10 (fun w1 h1 => same4 A23 _ c23 (dl s) A13 _ c13 (dl s) w1 (h1.rd (RdS.row (.s .z))) rfl (by omega) (h1.rd (RdS.row (.s (.s (.s .z))))) rfl (by omega)) ?_
      refine o_move rfl rfl ?_
      refine' triL_and [_, _, _, _, _, _] [] (dj := 64) (dr := 70) rfl rfl (fun g4 => ?_) ⟨_, rfl, rfl, rfl, (.nil _)⟩ rfl ?_
      rotate_left
      · skip
        skip
        refine o_move rfl rfl ?_
        refine o_lenS Try.underlying22 rfl rfl ?_
        refine o_move rfl rfl ?_
        refine o_lenS Try.underlying22 rfl rfl ?_
        refine o_addN rfl rfl rfl (by omega) ?_
        refine o_eqlI rfl rfl rfl ?_
        exact triL_nil (Piece.mk rfl rfl (.nil _) (fun _ h => h))
      refine o_move rfl rfl ?_
      refine' triL_and [_] [] (dj := 72) (dr := 73) rfl rfl (fun g5 => ?_) ⟨_, rfl, rfl, rfl, (.nil _)⟩ rfl ?_
      rotate_left
      · skip
        skip
        refine o_callP (first := []) (cap := []) rfl rfl rfl Try.call11 (fun w1 h1 => awakeK w1) ?_
        exact triL_nil (Piece.mk rfl rfl (.nil _) (fun _ h => h))
      refine o_assign rfl rfl ?_
      refine triL_nil ?_
      refine thenQ_normal ?_
      refine tri_ret ?_
      refine end1 rfl rfl ?_
      exact fun w1 hw1 => ⟨congrArg (fun b => Ending.returned (.bool b)) (by simp), hw1.chg⟩

theorem keysBack (A : Option Addr) (n c : Nat) (l : List Val) (A2 : Option Addr) (n2 c2 : Nat) (l2 : List Val) (s : List UInt8) (w : World) (hr : Rd w A (valsV l)) (hn : l.length = n) (hm : n ≤ 4398046510976) (ho : ∀ v ∈ l, v.ok) (hs : ∀ v ∈ l, v.s.length ≤ 140737488355328) (hc : n ≤ c) (hr2 : Rd w A2 (valsV l2)) (hn2 : l2.length = n2) (hm2 : n2 ≤ 4398046510976) (ho2 : ∀ v ∈ l2, v.ok) (hs2 : ∀ v ∈ l2, v.s.length ≤ 140737488355328) (hc2 : n2 ≤ c2) (hst : s.length ≤ 140737488355328) : Calls Try.prog 5 #[.slice A n c, .slice A2 n2 c2, .string (B s)] w (Pure w (.bool true)) := by
  refine calls_tri (args := [.slice A n c, .slice A2 n2 c2, .string (B s)]) (lent := []) (H := []) Try.func5 rfl Try.ntmps5 rfl (Sat.start _ _ _ _) ?_
  refine (show Tri _ [(0, _), (1, _), (2, _)] _ _ _ from ?_)
  have hR : ∀ cx H, cx.w0 = w → cx.lent = [] → RdS cx H A (valsV l) := fun cx H h1 h2 => RdS.arg (by rw [h1]; exact hr) h2
  have hR2 : ∀ cx H, cx.w0 = w → cx.lent = [] → RdS cx H A2 (valsV l2) := fun cx H h1 h2 => RdS.arg (by rw [h1]; exact hr2) h2
  have hd1 := (dl_good (encR l).1).2
  have hd2 := (dl_good s).2
  have hel := encR_len l
  have hel2 := encR_len l2
  refine tri_seq ?_
  refine tri_region ?_
  refine o_assign rfl rfl ?_
  refine triL_nil ?_
  refine thenQ_normal ?_
  refine tri_seq ?_
  refine tri_region ?_
  refine o_move rfl rfl ?_
  refine o_callF (first := []) (cap := []) less1 rfl rfl rfl Try.call13 (fun w1 h1 => lent4 A n c l w1 (h1.rd (hR _ _ rfl rfl)) hn (by omega) (by omega)) (fun A20 c20 => ?_)
  refine (show TriX _ _ _ ((20, Value.slice A20 n c20) :: _) _ _ _ from ?_)
  refine o_callP (first := []) (cap := []) rfl rfl rfl Try.call12 (fun w1 h1 => encK A20 n c20 l w1 (by have h := (h1.rd (RdS.row .z)).take (n * 3); rw [valsV_take, ← hn, List.take_left] at h; exact h) hn (by omega) ho hs) ?_
  refine o_move rfl rfl ?_
  refine o_extract rfl rfl rfl ?_
  refine o_extract rfl rfl rfl ?_
  refine o_assign rfl rfl ?_
  refine o_assign rfl rfl ?_
  refine triL_nil ?_
  refine thenQ_normal ?_
  refine tri_join (ι := Unit) (fun u => [(0, .slice A n c), (1, .slice A2 n2 c2), (2, .string (B s)), (7, .string (B (encR l).1)), (8, .int .i64 (encR l).2)]) (fun u => []) (fun u => True) ?_ (fun u hj => ?_)
  · skip
    refine tri_seq ?_
    refine tri_slots [(8, _), (7, _), (0, _), (1, _), (2, _)] (.cons rfl (.cons rfl (.cons rfl (.cons rfl (.cons rfl (.nil _)))))) ?_
    refine tri_region ?_
    refine o_move rfl rfl ?_
    refine o_eqlI rfl rfl rfl ?_
    refine triL_nil ?_
    refine thenQ_normal ?_
    refine tri_if rfl (fun h0 => ?_) (fun h0 => ?_)
    · skip
      have hde := dec_enc (show (encR l).2 = 0 from h0) ho
      refine tri_seq ?_
      refine tri_region ?_
      refine o_move rfl rfl ?_
      refine o_callF (first := []) (cap := []) (fun v => .tuple #[v, .int .i64 (dcode (encR l).1)]) rfl rfl rfl Try.call9 (fun w1 h1 => (decK (encR l).1 w1 (by omega)).mono fun e w' h => h.new) (fun A28 c28 => ?_)
      refine o_move rfl rfl ?_
      refine o_extract rfl rfl rfl ?_
      refine o_extract rfl rfl rfl ?_
      refine o_assign rfl rfl ?_
      refine o_assign rfl rfl ?_
      refine triL_nil ?_
      refine thenQ_normal ?_
      refine tri_seq ?_
      refine tri_slots [(10, _), (9, _), (8, _), (7, _), (0, _), (1, _), (2, _)] (.cons rfl (.cons rfl (.cons rfl (.cons rfl (.cons rfl (.cons rfl (.cons rfl (.nil _)))))))) ?_
      refine tri_region ?_
      refine o_move rfl rfl ?_
      refine o_neqI rfl rfl rfl ?_
      refine o_move rfl rfl ?_
      refine' triL_or [_, _, _, _] [(8, _), (7, _), (0, _), (1, _), (2, _)] (dj := 33) (dr := 37) rfl rfl (fun g1 => ?_) ⟨_, rfl, rfl, rfl, (.cons rfl (.cons rfl (.cons rfl (.cons rfl (.cons rfl (.nil _))))))⟩ rfl ?_
      rotate_left
      · skip
        skip
        refine o_move rfl rfl ?_
        refine o_move rfl rfl ?_
        refine o_callP (first := []) (cap := []) rfl rfl rfl Try.call10 (fun w1 h1 => same4 A28 _ c28 (dl (encR l).1) A n c l w1 (h1.rd (RdS.row .z)) rfl (by omega) (h1.rd (hR _ _ rfl rfl)) hn (by omega)) ?_
        refine o_not rfl rfl ?_
        exact triL_nil (Piece.mk rfl rfl (.cons rfl (.cons rfl (.cons rfl (.cons rfl (.cons rfl (.nil _)))))) (fun _ h => h))
      refine triL_nil ?_
      refine thenQ_normal ?_
      refine tri_cond rfl (fun h1 => ?_) (fun h1 => ?_)
      · skip
        exact absurd h1 (by simp [hde.1, hde.2])
      · skip
        refine tri_skip ?_
        refine thenQ_normal ?_
        exact ⟨(), (.cons rfl (.cons rfl (.cons rfl (.cons rfl (.cons rfl (.nil _)))))), fun _ h => h.sublist (List.nil_sublist _), trivial⟩
    · skip
      refine tri_skip ?_
      refine thenQ_normal ?_
      exact ⟨(), (.cons rfl (.cons rfl (.cons rfl (.cons rfl (.cons rfl (.nil _)))))), fun _ h => h.sublist (List.nil_sublist _), trivial⟩
  refine tri_seq ?_
  refine tri_region ?_
  refine o_move rfl rfl ?_
  refine o_callF (first := []) (cap := []) (fun v => .tuple #[v, .int .i64 (dcode s)]) rfl rfl rfl Try.call9 (fun w1 h1 => (decK s w1 hst).mono fun e w' h => h.new) (fun A41 c41 => ?_)
  refine o_move rfl rfl ?_
  refine o_extract rfl rfl rfl ?_
  refine o_extract rfl rfl rfl ?_
  refine o_assign rfl rfl ?_
  refine o_assign rfl rfl ?_
  refine triL_nil ?_
  refine thenQ_normal ?_
  refine tri_join (ι := Unit) (fun u => [(0, .slice A n c), (1, .slice A2 n2 c2), (2, .string (B s)), (7, .string (B (encR l).1)), (8, .int .i64 (encR l).2)]) (fun u => []) (fun u => True) ?_ (fun u hj => ?_)
  · skip
    refine tri_seq ?_
    refine tri_slots [(12, _), (11, _), (0, _), (1, _), (2, _), (7, _), (8, _)] (.cons rfl (.cons rfl (.cons rfl (.cons rfl (.cons rfl (.cons rfl (.cons rfl (.nil _)))))))) ?_
    refine tri_region ?_
    refine o_move rfl rfl ?_
    refine o_eqlI rfl rfl rfl ?_
    refine triL_nil ?_
    refine thenQ_normal ?_
    refine tri_if rfl (fun h2 => ?_) (fun h2 => ?_)
    · skip
      have hcd := dcode_ok (show dcode s = 0 from h2)
      refine tri_seq ?_
      refine tri_region ?_
      refine o_move rfl rfl ?_
      refine o_callP (first := []) (cap := []) rfl rfl rfl Try.call12 (fun w1 h1 => encK A41 _ c41 (dl s) w1 (h1.rd (RdS.row .z)) rfl (by omega) (dl_good s).1.2 (good_text (dl_good s).1)) ?_
      refine o_move rfl rfl ?_
      refine o_extract rfl rfl rfl ?_
      refine o_extract rfl rfl rfl ?_
      refine o_assign rfl rfl ?_
      refine o_assign rfl rfl ?_
      refine triL_nil ?_
      refine thenQ_normal ?_
      refine tri_seq ?_
      refine tri_slots [(14, _), (13, _), (0, _), (1, _), (2, _), (7, _), (8, _)] (.cons rfl (.cons rfl (.cons rfl (.cons rfl (.cons rfl (.cons rfl (.cons rfl (.nil _)))))))) ?_
      refine tri_region ?_
      refine o_move rfl rfl ?_
      refine o_neqI rfl rfl rfl ?_
      refine o_move rfl rfl ?_
      refine' triL_or [_, _, _] [(0, _), (1, _), (2, _), (7, _), (8, _)] (dj := 53) (dr := 56) rfl rfl (fun g2 => ?_) ⟨_, rfl, rfl, rfl, (.cons rfl (.cons rfl (.cons rfl (.cons rfl (.cons rfl (.nil _))))))⟩ rfl ?_
      rotate_left
      · skip
        skip
        refine o_move rfl rfl ?_
        refine o_move rfl rfl ?_
        refine o_neqT rfl rfl rfl ?_
        exact triL_nil (Piece.mk rfl rfl (.cons rfl (.cons rfl (.cons rfl (.cons rfl (.cons rfl (.nil _)))))) (fun _ h => h))
      refine triL_nil ?_
      refine thenQ_normal ?_
      refine tri_cond rfl (fun h3 => ?_) (fun h3 => ?_)
      · skip
        exact absurd h3 (by simp [hcd])
      · skip
        refine tri_skip ?_
        refine thenQ_normal ?_
        exact ⟨(), (.cons rfl (.cons rfl (.cons rfl (.cons rfl (.cons rfl (.nil _)))))), fun _ h => h.sublist (List.nil_sublist _), trivial⟩
    · skip
      refine tri_skip ?_
      refine thenQ_normal ?_
      exact ⟨(), (.cons rfl (.cons rfl (.cons rfl (.cons rfl (.cons rfl (.nil _)))))), fun _ h => h.sublist (List.nil_sublist _), trivial⟩
  refine tri_seq ?_
  refine tri_region ?_
  refine o_move rfl rfl ?_
  refine o_callF (first := []) (cap := []) less1 rfl rfl rfl Try.call13 (fun w1 h1 => lent4 A2 n2 c2 l2 w1 (h1.rd (hR2 _ _ rfl rfl)) hn2 (by omega) (by omega)) (fun A60 c60 => ?_)
  refine (show TriX _ _ _ ((60, Value.slice A60 n2 c60) :: _) _ _ _ from ?_)
  refine o_callP (first := []) (cap := []) rfl rfl rfl Try.call12 (fun w1 h1 => encK A60 n2 c60 l2 w1 (by have h := (h1.rd (RdS.row .z)).take (n2 * 3); rw [valsV_take, ← hn2, List.take_left] at h; exact h) hn2 (by omega) ho2 hs2) ?_
  refine o_move rfl rfl ?_
  refine o_extract rfl rfl rfl ?_
  refine o_extract rfl rfl rfl ?_
  refine o_assign rfl rfl ?_
  refine o_assign rfl rfl ?_
  refine triL_nil ?_
  refine thenQ_normal ?_
  refine tri_seq ?_
  refine tri_seq ?_
  refine tri_slots [(16, _), (15, _), (0, _), (1, _), (7, _), (8, _)] (.cons rfl (.cons rfl (.cons rfl (.cons rfl (.cons rfl (.cons rfl (.nil _))))))) ?_
  refine tri_region ?_
  refine o_move rfl rfl ?_
  refine o_neqI rfl rfl rfl ?_
  refine o_move rfl rfl ?_
  refine' triL_or [_, _] [(15, _), (0, _), (1, _), (7, _)] (dj := 66) (dr := 68) rfl rfl (fun g3 => ?_) ⟨_, rfl, rfl, rfl, (.cons rfl (.cons rfl (.cons rfl (.cons rfl (.nil _)))))⟩ rfl ?_
  rotate_left
  · skip
    skip
    refine o_move rfl rfl ?_
    refine o_neqI rfl rfl rfl ?_
    exact triL_nil (Piece.mk rfl rfl (.cons rfl (.cons rfl (.cons rfl (.cons rfl (.nil _))))) (fun _ h => h))
  refine o_move rfl rfl ?_
  refine' triL_or [_, _, _, _, _] [(15, _), (7, _)] (dj := 70) (dr := 75) rfl rfl (fun g4 => ?_) ⟨_, rfl, rfl, rfl, (.cons rfl (.cons rfl (.nil _)))⟩ rfl ?_
  rotate_left
  · skip
    skip
    refine o_move rfl rfl ?_
    refine o_lenS Try.underlying22 rfl rfl ?_
    refine o_move rfl rfl ?_
    refine o_lenS Try.underlying22 rfl rfl ?_
    refine o_neqI rfl rfl rfl ?_
    exact triL_nil (Piece.mk rfl rfl (.cons rfl (.cons rfl (.nil _))) (fun _ h => h))
  refine o_move rfl rfl ?_
  refine' triL_or [_, _, _] [(15, _), (7, _)] (dj := 77) (dr := 80) rfl rfl (fun g5 => ?_) ⟨_, rfl, rfl, rfl, (.cons rfl (.cons rfl (.nil _)))⟩ rfl ?_
  rotate_left
  · skip
    skip
    refine o_move rfl rfl ?_
    refine o_move rfl rfl ?_
    refine o_eqlT rfl rfl rfl ?_
    exact triL_nil (Piece.mk rfl rfl (.cons rfl (.cons rfl (.nil _))) (fun _ h => h))
  refine triL_nil ?_
  refine thenQ_normal ?_
  refine tri_cond rfl (fun h4 => ?_) (fun h4 => ?_)
  · skip
    refine tri_seq ?_
    refine tri_region ?_
    refine o_callP (first := []) (cap := []) rfl rfl rfl Try.call11 (fun w1 h1 => awakeK w1) ?_
    refine o_assign rfl rfl ?_
    refine triL_nil ?_
    refine thenQ_normal ?_
    refine tri_ret ?_
    refine thenQ_ret ?_
    refine end1 rfl rfl ?_
    exact fun w1 hw1 => ⟨rfl, hw1.chg⟩
  · skip
    have h4 : (((encR l).2 = 0 ∧ (encR l2).2 = 0) ∧ n = n2) ∧ (encR l).1 ≠ (encR l2).1 := by simpa [Int.ofNat_inj] using h4
    obtain ⟨⟨⟨h5, h6⟩, h7⟩, h8⟩ := h4
    obtain ⟨e1, g1, _, _⟩ := encR_ok h5
    obtain ⟨e2, g2, _, _⟩ := encR_ok h6
    rw [e1, e2] at h8
    have hnb := no_begin ⟨g1, ho⟩ ⟨g2, ho2⟩ (by omega) h8
    refine tri_skip ?_
    refine thenQ_normal ?_
    refine tri_seq ?_
    refine tri_region ?_
    refine o_move rfl rfl ?_
    refine o_lenB Try.underlying9 rfl rfl ?_
    refine o_move rfl rfl ?_
    refine o_lenB Try.underlying9 rfl rfl ?_
    refine o_min rfl rfl rfl ?_
    refine o_assign rfl rfl ?_
    refine triL_nil ?_
    refine thenQ_normal ?_
    refine tri_seq ?_
    refine tri_slots [(17, _), (15, _), (7, _)] (.cons rfl (.cons rfl (.cons rfl (.nil _)))) ?_
    refine tri_mix (_) [(0, true), (1, true), (2, true), (3, true), (4, true), (5, true), (6, false), (7, false), (8, false), (9, false), (10, false)] [6, 7, 8, 9, 10] (by kernel_rfl) (by kernel_rfl) (fun _ h => h) ?_
    refine mix_fix rfl ?_
    refine o_move rfl rfl ?_
    refine triL_nil ⟨rfl, ?_⟩
    refine mix_fix rfl ?_
    refine o_move rfl rfl ?_
    refine triL_nil ⟨rfl, ?_⟩
    refine mix_fix rfl ?_
    refine o_sliceBh Try.underlying9 rfl rfl rfl (by omega) (by omega) ?_
    refine triL_nil ⟨rfl, ?_⟩
    refine mix_fix rfl ?_
    refine o_move rfl rfl ?_
    refine triL_nil ⟨rfl, ?_⟩
    refine mix_fix rfl ?_
    refine o_move rfl rfl ?_
    refine triL_nil ⟨rfl, ?_⟩
    refine mix_fix rfl ?_
    refine o_sliceBh Try.underlying9 rfl rfl rfl (by omega) (by omega) ?_
    refine triL_nil ⟨rfl, ?_⟩
    refine mix_rest [6, 7, 8, 9, 10] [_, _, _, _, _] rfl rfl ?_
    refine o_neqT rfl rfl rfl ?_
    refine o_move rfl rfl ?_
    refine' triL_and [_] [] (dj := 95) (dr := 96) rfl rfl (fun g6 => ?_) ⟨_, rfl, rfl, rfl, (.nil _)⟩ rfl ?_
    rotate_left
    · skip
      skip
      refine o_callP (first := []) (cap := []) rfl rfl rfl Try.call11 (fun w1 h1 => awakeK w1) ?_
      exact triL_nil (Piece.mk rfl rfl (.nil _) (fun _ h => h))
    refine o_assign rfl rfl ?_
    refine triL_nil ⟨rfl, ?_⟩
    refine thenQ_normal ?_
    refine tri_ret ?_
    refine end1 rfl rfl ?_
    exact fun w1 hw1 => ⟨congrArg (fun b => Ending.returned (.bool b)) (by rw [e1, e2, show (min ((enc l).length : Int) ((enc l2).length : Int)).toNat = min (enc l).length (enc l2).length by omega]; simp [hnb]), hw1.chg⟩

end Go.Proofs.Ytidnfamnigbbmaa
