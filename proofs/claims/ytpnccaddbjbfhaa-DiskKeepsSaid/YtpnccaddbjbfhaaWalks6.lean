/- calls on two disks at once, walked -/
import Derived.Test.YtpnccaddbjbfhaaWalks5
namespace Go.Proofs.Ytpnccaddbjbfhaa
open Go.WK Go.RowKit 

theorem fo35_0 : fieldB Try.prog 35 0 = some 0 := by kernel_rfl
theorem fo35_1 : fieldB Try.prog 35 1 = some 1 := by kernel_rfl
theorem agg5 : aggB Try.prog 5 = some false := by kernel_rfl
theorem fo35_3 : fieldB Try.prog 35 3 = some 3 := by kernel_rfl

theorem doesL (gd : Nat) (Ak : Option Addr) (ck : Nat) (Ac : Option Addr) (cc : Nat) (g : Nat) (m : Rk) (d : Dk) (x : Stp) (w : World) (hs : Sat ⟨Try.prog, 120, [], w, dkF gd Ak Ac ++ rkF g m⟩ (dkC gd Ak ck Ac cc d ++ rkC g m d) w) (hok : m.ok d) (hg : d.good) (hm : d.cache.length ≤ 100000) (hne : d.kept ≠ []) (hx : x.ok w (dkF gd Ak Ac ++ rkF g m)) (hxn : x.n ≤ 140737488351232) : Calls Try.prog 25 #[.pointer (some ⟨gd, 0, none⟩), .pointer (some ⟨g, 0, none⟩), .agg (stepV x).toArray] w (Turn w (dkF gd Ak Ac ++ rkF g m) (fun _ : (Option Addr × Nat) × Rk => .bool true) (fun j => dkC gd Ak ck j.1.1 j.1.2 (d.step x) ++ rkC g j.2 (d.step x)) (fun j => j.2.ok (d.step x))) := by
  refine calls_tri (args := [.pointer (some ⟨gd, 0, none⟩), .pointer (some ⟨g, 0, none⟩), .agg (stepV x).toArray]) (lent := dkF gd Ak Ac ++ rkF g m) (H := (dkC gd Ak ck Ac cc d ++ rkC g m d)) Try.func25 rfl Try.ntmps25 rfl hs ?_
  refine (show Tri _ [(0, _), (1, _), (2, _)] _ _ _ from ?_)
  have hXB : ∀ cx H, cx.w0 = w → cx.lent = dkF gd Ak Ac ++ rkF g m → RdS cx H x.A (bytesV x.b) := fun cx H h1 h2 => Keeps.rdS (by rw [h1, h2]; exact hx.1)
  refine tri_seq ?_
  refine tri_region ?_
  refine o_box _ rfl rfl rfl (fun b5 => ?_)
  refine o_assign rfl rfl ?_
  refine triL_nil ?_
  refine thenQ_normal ?_
  refine tri_seq ?_
  refine tri_seq ?_
  refine tri_region ?_
  refine o_field fo35_0 rfl rfl ?_
  refine o_load agg3 (by first | exact Nth.z | exact .s .z | exact .s (.s .z) | exact .s (.s (.s .z)) | exact .s (.s (.s (.s .z))) | exact .s (.s (.s (.s (.s .z)))) | exact .s (.s (.s (.s (.s (.s .z))))) | exact .s (.s (.s (.s (.s (.s (.s .z))))))) rfl rfl rfl ?_
  refine triL_nil ?_
  refine thenQ_normal ?_
  refine tri_block ?_
  refine tri_seq ?_
  refine tri_region ?_
  refine o_eqlI rfl rfl rfl ?_
  refine o_assign rfl rfl ?_
  refine triL_nil ?_
  refine thenQ_normal ?_
  refine tri_if rfl (fun c0 => ?_) (fun c0 => ?_)
  · skip
    refine tri_seq ?_
    refine tri_slots [(5, _), (0, _), (1, _)] (.cons rfl (.cons rfl (.cons rfl (.nil _)))) ?_
    refine tri_region ?_
    refine o_move rfl rfl ?_
    refine o_field fo35_1 rfl rfl ?_
    refine o_load agg3 (by first | exact Nth.z | exact .s .z | exact .s (.s .z) | exact .s (.s (.s .z)) | exact .s (.s (.s (.s .z))) | exact .s (.s (.s (.s (.s .z)))) | exact .s (.s (.s (.s (.s (.s .z))))) | exact .s (.s (.s (.s (.s (.s (.s .z))))))) rfl rfl rfl ?_
    refine o_callM [box b5 35 (stepV x)] (dkC gd Ak ck Ac cc d) (rkC g m d) (dkF gd Ak Ac) rfl rfl rfl rfl Try.call18 dk_lend dk_lend' (fun w1 h1 h2 => readK gd Ak ck Ac cc d x.at_ w1 h2.cx hg hm) (fun u _ => ?_)
    obtain ⟨rb, code, d', hrd⟩ : ∃ rb code d', d.read x.at_ = (rb, code, d') := ⟨_, _, _, rfl⟩
    rw [hrd]
    dsimp only
    have hrl := Dk.read_len hg x.at_
    rw [hrd] at hrl
    simp only at hrl
    refine o_move rfl rfl ?_
    refine o_extract rfl rfl rfl ?_
    refine o_extract rfl rfl rfl ?_
    refine o_assign rfl rfl ?_
    refine o_assign rfl rfl ?_
    refine triL_nil ?_
    refine thenQ_normal ?_
    refine tri_seq ?_
    refine tri_slots [(8, _), (7, _), (5, _), (1, _)] (.cons rfl (.cons rfl (.cons rfl (.cons rfl (.nil _))))) ?_
    refine tri_region ?_
    refine o_move rfl rfl ?_
    refine o_field fo35_1 rfl rfl ?_
    refine o_load agg3 (by first | exact Nth.z | exact .s .z | exact .s (.s .z) | exact .s (.s (.s .z)) | exact .s (.s (.s (.s .z))) | exact .s (.s (.s (.s (.s .z)))) | exact .s (.s (.s (.s (.s (.s .z))))) | exact .s (.s (.s (.s (.s (.s (.s .z))))))) rfl rfl rfl ?_
    refine o_callM ([box b5 35 (stepV x)] ++ (row (.slice u.1 rb.length u.2) 66 1 rb.length (bytesV rb) :: dkC gd Ak ck Ac cc d')) (rkC g m d) [] (rkF g m) rfl rfl rfl rfl Try.call31 rk_lend rk_lend' (fun w1 h1 h2 => readR g m d x.at_ w1 h2.cx hok hg hm) (fun v _ => ?_)
    rw [hrd]
    dsimp only
    refine o_move rfl rfl ?_
    refine o_extract rfl rfl rfl ?_
    refine o_extract rfl rfl rfl ?_
    refine o_assign rfl rfl ?_
    refine o_assign rfl rfl ?_
    refine triL_nil ?_
    refine thenQ_normal ?_
    refine tri_seq ?_
    refine tri_slots [(10, _), (9, _), (8, _), (7, _)] (.cons rfl (.cons rfl (.cons rfl (.cons rfl (.nil _))))) ?_
    refine tri_region ?_
    refine o_move rfl rfl ?_
    refine o_toText (l := rb) Try.underlying32 Try.underlying5 Try.underlying9 rfl rfl (RdS.row (i := 1) (.s .z)) rfl ?_
    refine o_move rfl rfl ?_
    refine o_toText (l := rb) Try.underlying32 Try.underlying5 Try.underlying9 rfl rfl (RdS.row (i := 5) (.s (.s (.s (.s (.s .z)))))) rfl ?_
    refine o_eqlT rfl rfl rfl ?_
    refine o_move rfl rfl ?_
    refine' triL_and [_, _, _] [(7, _)] (dj := 40) (dr := 43) rfl rfl (fun g1 => ?_) ⟨_, rfl, rfl, rfl, (.cons rfl (.nil _))⟩ rfl ?_
    rotate_left
    · skip
      skip
      refine o_move rfl rfl ?_
      refine o_move rfl rfl ?_
      refine o_eqlI rfl rfl rfl ?_
      exact triL_nil (Piece.mk rfl rfl (.cons rfl (.nil _)) (fun _ h => h))
    refine o_assign rfl rfl ?_
    refine triL_nil ?_
    refine thenQ_normal ?_
    refine tri_seq ?_
    refine tri_seq ?_
    refine tri_region ?_
    refine o_assign rfl rfl ?_
    refine triL_nil ?_
    refine thenQ_normal ?_
    refine tri_block ?_
    refine tri_loop (ι := Nat × List UInt8) (F := fun q => [(7, .slice u.1 rb.length u.2), (11, .bool (decide (rb = rb) && decide (code = code))), (12, .int .i64 (q.1 : Int))]) (HH := fun q => ([box b5 35 (stepV x)] ++ (row (.slice u.1 rb.length u.2) 66 1 rb.length (bytesV q.2) :: dkC gd Ak ck Ac cc d') ++ ((row (.slice v.1 rb.length v.2) 5 1 rb.length (bytesV rb) :: rkC g m d') ++ []))) (Pu := fun q => q.1 ≤ rb.length ∧ q.2.length = rb.length) (μ := fun q => rb.length - q.1) ((0, rb)) (.cons rfl (.cons rfl (.cons rfl (.nil _)))) (fun _ h => h) (⟨Nat.zero_le _, rfl⟩) (fun q hi => ?_)
    refine tri_seq ?_
    refine tri_seq ?_
    refine tri_region ?_
    refine o_move rfl rfl ?_
    refine o_move rfl rfl ?_
    refine o_lenS Try.underlying32 rfl rfl ?_
    refine o_lss rfl rfl rfl ?_
    refine triL_nil ?_
    refine thenQ_normal ?_
    refine tri_if rfl (fun l1 => ?_) (fun l1 => ?_)
    · skip
      refine tri_skip ?_
      refine thenQ_normal ?_
      refine tri_seq ?_
      refine tri_block ?_
      refine tri_slots [(7, _), (11, _), (12, _)] (.cons rfl (.cons rfl (.cons rfl (.nil _)))) ?_
      refine tri_region ?_
      refine o_move rfl rfl ?_
      refine o_move rfl rfl ?_
      refine o_move rfl rfl ?_
      refine o_move rfl rfl ?_
      refine o_idxS Try.underlying32 sz5 rfl rfl rfl (RdS.row (i := 1) (.s .z)) (by omega) (by omega) (by rw [bytesV_length]; omega) (by decide) ?_
      refine o_loadR agg5 rfl rfl (RdS.row (i := 1) (.s .z)) (rd_byte q.2 q.1 (by simp) (by omega)) ?_
      refine o_add rfl rfl rfl ?_
      rw [byte_inc]
      refine o_idxS Try.underlying32 sz5 rfl rfl rfl (RdS.row (i := 1) (.s .z)) (by omega) (by omega) (by rw [bytesV_length]; omega) (by decide) ?_
      refine o_storeR sz5 (.s .z) rfl rfl rfl rfl (by rw [bytesV_length]; omega) rfl ?_
      refine triL_nil ?_
      refine blockQ_normal ?_
      refine thenQ_normal ?_
      refine tri_slots [(7, _), (11, _), (12, _)] (.cons rfl (.cons rfl (.cons rfl (.nil _)))) ?_
      refine tri_region ?_
      refine o_move rfl rfl ?_
      refine o_addN rfl rfl rfl (by omega) ?_
      refine o_assign rfl rfl ?_
      refine triL_nil ?_
      refine thenQ_normal ?_
      exact ⟨(q.1 + 1, q.2.set q.1 (q.2.getD q.1 0 + 1)), (.cons rfl (.cons rfl (.cons rfl (.nil _)))), (fun w1 hw1 => by
  simp only [← bytesV_set]
  rw [show (q.1 : Int).toNat * 1 = q.1 by omega] at hw1
  exact hw1), ⟨by simp only; omega, by simp only [List.length_set]; exact hi.2⟩, (by simp only; omega)⟩
    · skip
      refine tri_exit ?_
      refine thenQ_exit ?_
      refine thenQ_exit ?_
      refine blockQ_here ?_
      refine thenQ_normal ?_
      refine tri_seq ?_
      refine tri_slots [(11, _)] (.cons rfl (.nil _)) ?_
      refine tri_region ?_
      refine o_move rfl rfl ?_
      refine o_assign rfl rfl ?_
      refine triL_nil ?_
      refine thenQ_normal ?_
      refine tri_ret ?_
      refine blockQ_ret ?_
      refine thenQ_ret ?_
      refine end1 rfl rfl ?_
      have e : d.step x = d' := by rw [Dk.step, if_pos c0, hrd]
      exact fin_turn ((Ac, cc), m) (by simp) (by rw [e]; have h9 := ok_read hok x.at_; rw [hrd] at h9; exact h9) (fun w1 hw => by rw [e]; exact hw.sublist (List.Sublist.cons _ (List.Sublist.cons _ (List.Sublist.cons_cons _ (List.Sublist.cons_cons _ (List.Sublist.cons_cons _ (List.Sublist.cons _ (List.Sublist.refl _))))))))
  · skip
    refine tri_seq ?_
    refine tri_slots [(18, _), (5, _), (0, _), (1, _)] (.cons rfl (.cons rfl (.cons rfl (.cons rfl (.nil _))))) ?_
    refine tri_region ?_
    refine o_eqlI rfl rfl rfl ?_
    refine o_assign rfl rfl ?_
    refine triL_nil ?_
    refine thenQ_normal ?_
    refine tri_if rfl (fun c1 => ?_) (fun c1 => ?_)
    · skip
      refine tri_seq ?_
      refine tri_region ?_
      refine o_field fo35_2 rfl rfl ?_
      refine o_load agg32 (by first | exact Nth.z | exact .s .z | exact .s (.s .z) | exact .s (.s (.s .z)) | exact .s (.s (.s (.s .z))) | exact .s (.s (.s (.s (.s .z)))) | exact .s (.s (.s (.s (.s (.s .z))))) | exact .s (.s (.s (.s (.s (.s (.s .z))))))) rfl rfl rfl ?_
      refine o_callF (first := []) (cap := []) id rfl rfl rfl Try.call14 (fun w1 h1 => copyR x.A x.n x.c x.b w1 (h1.rd (hXB _ _ rfl rfl)) hx.2.1 (by omega)) (fun A64 c64 => ?_)
      refine o_assign rfl rfl ?_
      refine triL_nil ?_
      refine thenQ_normal ?_
      refine tri_seq ?_
      refine tri_slots [(13, _), (5, _), (0, _), (1, _)] (.cons rfl (.cons rfl (.cons rfl (.cons rfl (.nil _))))) ?_
      refine tri_region ?_
      refine o_move rfl rfl ?_
      refine o_field fo35_1 rfl rfl ?_
      refine o_load agg3 (by first | exact Nth.z | exact .s .z | exact .s (.s .z) | exact .s (.s (.s .z)) | exact .s (.s (.s (.s .z))) | exact .s (.s (.s (.s (.s .z)))) | exact .s (.s (.s (.s (.s (.s .z))))) | exact .s (.s (.s (.s (.s (.s (.s .z))))))) rfl rfl rfl ?_
      refine o_move rfl rfl ?_
      refine o_callM [row (.slice A64 x.n c64) 5 1 x.n (bytesV x.b), box b5 35 (stepV x)] (dkC gd Ak ck Ac cc d) (rkC g m d) (dkF gd Ak Ac) rfl rfl rfl rfl Try.call13 dk_lend dk_lend' (fun w1 h1 h2 => writeK gd Ak ck Ac cc d x.at_ A64 x.n c64 x.b w1 h2.cx hg hm (Keeps.row (n := x.n) (c := c64) (e := 5) (s := 1) h1 (permM [_, _] (dkC gd Ak ck Ac cc d) (rkC g m d)) dk_lend' List.mem_cons_self) hx.2.1) (fun u _ => ?_)
      refine o_assign rfl rfl ?_
      refine triL_nil ?_
      refine thenQ_normal ?_
      refine tri_seq ?_
      refine tri_seq ?_
      refine tri_slots [(14, _), (13, _), (5, _), (1, _)] (.cons rfl (.cons rfl (.cons rfl (.cons rfl (.nil _))))) ?_
      refine tri_region ?_
      refine o_assign rfl rfl ?_
      refine triL_nil ?_
      refine thenQ_normal ?_
      refine tri_block ?_
      refine tri_loop (ι := Nat × List UInt8) (F := fun q => [(1, .pointer (some ⟨g, 0, none⟩)), (5, .pointer (some ⟨b5, 0, none⟩)), (13, .slice A64 x.n c64), (14, .int .i64 (d.write x.at_ x.b).1), (15, .int .i64 (q.1 : Int))]) (HH := fun q => ([row (.slice A64 x.n c64) 5 1 x.n (bytesV q.2), box b5 35 (stepV x)] ++ (dkC gd Ak ck u.1 u.2 (d.write x.at_ x.b).2 ++ rkC g m d))) (Pu := fun q => q.1 ≤ x.n ∧ q.2.length = x.n) (μ := fun q => x.n - q.1) ((0, x.b)) (.cons rfl (.cons rfl (.cons rfl (.cons rfl (.cons rfl (.nil _)))))) (fun _ h => h) (⟨Nat.zero_le _, hx.2.1⟩) (fun q hi => ?_)
      refine tri_seq ?_
      refine tri_seq ?_
      refine tri_region ?_
      refine o_move rfl rfl ?_
      refine o_move rfl rfl ?_
      refine o_lenS Try.underlying32 rfl rfl ?_
      refine o_lss rfl rfl rfl ?_
      refine triL_nil ?_
      refine thenQ_normal ?_
      refine tri_if rfl (fun l2 => ?_) (fun l2 => ?_)
      · skip
        refine tri_skip ?_
        refine thenQ_normal ?_
        refine tri_seq ?_
        refine tri_block ?_
        refine tri_slots [(1, _), (5, _), (13, _), (14, _), (15, _)] (.cons rfl (.cons rfl (.cons rfl (.cons rfl (.cons rfl (.nil _)))))) ?_
        refine tri_region ?_
        refine o_move rfl rfl ?_
        refine o_move rfl rfl ?_
        refine o_move rfl rfl ?_
        refine o_move rfl rfl ?_
        refine o_idxS Try.underlying32 sz5 rfl rfl rfl (RdS.row (i := 0) .z) (by omega) (by omega) (by rw [bytesV_length]; omega) (by decide) ?_
        refine o_loadR agg5 rfl rfl (RdS.row (i := 0) .z) (rd_byte q.2 q.1 (by simp) (by omega)) ?_
        refine o_add rfl rfl rfl ?_
        rw [byte_inc]
        refine o_idxS Try.underlying32 sz5 rfl rfl rfl (RdS.row (i := 0) .z) (by omega) (by omega) (by rw [bytesV_length]; omega) (by decide) ?_
        refine o_storeR sz5 .z rfl rfl rfl rfl (by rw [bytesV_length]; omega) rfl ?_
        refine triL_nil ?_
        refine blockQ_normal ?_
        refine thenQ_normal ?_
        refine tri_slots [(1, _), (5, _), (13, _), (14, _), (15, _)] (.cons rfl (.cons rfl (.cons rfl (.cons rfl (.cons rfl (.nil _)))))) ?_
        refine tri_region ?_
        refine o_move rfl rfl ?_
        refine o_addN rfl rfl rfl (by omega) ?_
        refine o_assign rfl rfl ?_
        refine triL_nil ?_
        refine thenQ_normal ?_
        exact ⟨(q.1 + 1, q.2.set q.1 (q.2.getD q.1 0 + 1)), (.cons rfl (.cons rfl (.cons rfl (.cons rfl (.cons rfl (.nil _)))))), (fun w1 hw1 => by
  simp only [← bytesV_set]
  rw [show (q.1 : Int).toNat * 1 = q.1 by omega] at hw1
  exact hw1), ⟨by simp only; omega, by simp only [List.length_set]; exact hi.2⟩, (by simp only; omega)⟩
      · skip
        refine tri_exit ?_
        refine thenQ_exit ?_
        refine thenQ_exit ?_
        refine blockQ_here ?_
        refine thenQ_normal ?_
        refine tri_seq ?_
        refine tri_slots [(1, _), (5, _), (14, _)] (.cons rfl (.cons rfl (.cons rfl (.nil _)))) ?_
        refine tri_region ?_
        refine o_move rfl rfl ?_
        refine o_move rfl rfl ?_
        refine o_field fo35_1 rfl rfl ?_
        refine o_load agg3 (by first | exact Nth.z | exact .s .z | exact .s (.s .z) | exact .s (.s (.s .z)) | exact .s (.s (.s (.s .z))) | exact .s (.s (.s (.s (.s .z)))) | exact .s (.s (.s (.s (.s (.s .z))))) | exact .s (.s (.s (.s (.s (.s (.s .z))))))) rfl rfl rfl ?_
        refine o_field fo35_2 rfl rfl ?_
        refine o_load agg32 (by first | exact Nth.z | exact .s .z | exact .s (.s .z) | exact .s (.s (.s .z)) | exact .s (.s (.s (.s .z))) | exact .s (.s (.s (.s (.s .z)))) | exact .s (.s (.s (.s (.s (.s .z))))) | exact .s (.s (.s (.s (.s (.s (.s .z))))))) rfl rfl rfl ?_
        refine o_callM ([row (.slice A64 x.n c64) 5 1 x.n (bytesV q.2), box b5 35 (stepV x)] ++ dkC gd Ak ck u.1 u.2 (d.write x.at_ x.b).2) (rkC g m d) [] (rkF g m) rfl rfl rfl rfl Try.call32 rk_lend rk_lend' (fun w1 h1 h2 => writeR g m d x.at_ x.A x.n x.c x.b w1 h2.cx hok hg hm (Keeps.callM (L := ([row (.slice A64 x.n c64) 5 1 x.n (bytesV q.2), box b5 35 (stepV x)] ++ dkC gd Ak ck u.1 u.2 (d.write x.at_ x.b).2)) (D := rkC g m d) (R := []) hx.1 h1 rk_lend') hx.2.1) (fun v hv => ?_)
        refine o_eqlI rfl rfl rfl ?_
        refine o_assign rfl rfl ?_
        refine triL_nil ?_
        refine thenQ_normal ?_
        refine tri_ret ?_
        refine blockQ_ret ?_
        refine thenQ_ret ?_
        refine end1 rfl rfl ?_
        have e : d.step x = (d.write x.at_ x.b).2 := by rw [Dk.step, if_neg c0, if_pos c1]
        exact fin_turn (u, v) (by simp) (by rw [e]; exact hv) (fun w1 hw => by rw [e]; exact hw.sublist (List.Sublist.cons _ (List.Sublist.cons _ (List.Sublist.cons_cons _ (List.Sublist.cons_cons _ (List.Sublist.cons_cons _ (List.Sublist.refl _)))))))
    · skip
      refine tri_seq ?_
      refine tri_region ?_
      refine o_eqlI rfl rfl rfl ?_
      refine o_assign rfl rfl ?_
      refine triL_nil ?_
      refine thenQ_normal ?_
      refine tri_if rfl (fun c2 => ?_) (fun c2 => ?_)
      · skip
        refine tri_seq ?_
        refine tri_slots [(0, _), (1, _)] (.cons rfl (.cons rfl (.nil _))) ?_
        refine tri_region ?_
        refine o_move rfl rfl ?_
        refine o_callM [box b5 35 (stepV x)] (dkC gd Ak ck Ac cc d) (rkC g m d) (dkF gd Ak Ac) rfl rfl rfl rfl Try.call15 dk_lend dk_lend' (fun w1 h1 h2 => syncK gd Ak ck Ac cc d w1 h2.cx hg hm) (fun _ _ => ?_)
        rw [show d.syncI = d.sync by rw [Dk.syncI, if_neg hne]]
        refine o_assign rfl rfl ?_
        refine triL_nil ?_
        refine thenQ_normal ?_
        refine tri_seq ?_
        refine tri_region ?_
        refine o_move rfl rfl ?_
        refine o_move rfl rfl ?_
        refine o_callM ([box b5 35 (stepV x)] ++ dkC gd Ak ck Ac cc d.sync.2) (rkC g m d) [] (rkF g m) rfl rfl rfl rfl Try.call33 rk_lend rk_lend' (fun w1 h1 h2 => syncR g m d w1 h2.cx hok hg hm) (fun v hv => ?_)
        refine o_eqlI rfl rfl rfl ?_
        refine o_assign rfl rfl ?_
        refine triL_nil ?_
        refine thenQ_normal ?_
        refine tri_ret ?_
        refine blockQ_ret ?_
        refine thenQ_ret ?_
        refine end1 rfl rfl ?_
        have e : d.step x = d.sync.2 := by rw [Dk.step, if_neg c0, if_neg c1, if_pos c2]
        exact fin_turn ((Ac, cc), v) (by simp) (by rw [e]; exact hv) (fun w1 hw => by rw [e]; exact hw.sublist (List.Sublist.cons _ (List.Sublist.cons_cons _ (List.Sublist.cons_cons _ (List.Sublist.cons_cons _ (List.Sublist.refl _))))))
      · skip
        refine tri_seq ?_
        refine tri_slots [(18, _), (5, _), (0, _), (1, _)] (.cons rfl (.cons rfl (.cons rfl (.cons rfl (.nil _))))) ?_
        refine tri_region ?_
        refine o_eqlI rfl rfl rfl ?_
        refine o_assign rfl rfl ?_
        refine triL_nil ?_
        refine thenQ_normal ?_
        refine tri_if rfl (fun c3 => ?_) (fun c3 => ?_)
        · skip
          refine tri_seq ?_
          refine tri_region ?_
          refine o_move rfl rfl ?_
          refine o_field fo35_3 rfl rfl ?_
          refine o_load agg3 (by first | exact Nth.z | exact .s .z | exact .s (.s .z) | exact .s (.s (.s .z)) | exact .s (.s (.s (.s .z))) | exact .s (.s (.s (.s (.s .z)))) | exact .s (.s (.s (.s (.s (.s .z))))) | exact .s (.s (.s (.s (.s (.s (.s .z))))))) rfl rfl rfl ?_
          refine o_callM [box b5 35 (stepV x)] (dkC gd Ak ck Ac cc d) (rkC g m d) (dkF gd Ak Ac) rfl rfl rfl rfl Try.call27 dk_lend dk_lend' (fun w1 h1 h2 => tripK gd Ak ck Ac cc d x.N w1 h2.cx) (fun _ _ => ?_)
          rw [show d.armI x.N = d.arm x.N by rw [Dk.armI, if_neg hne]]
          refine triL_nil ?_
          refine thenQ_normal ?_
          refine tri_slots [(5, _), (1, _)] (.cons rfl (.cons rfl (.nil _))) ?_
          refine tri_region ?_
          refine o_move rfl rfl ?_
          refine o_field fo35_3 rfl rfl ?_
          refine o_load agg3 (by first | exact Nth.z | exact .s .z | exact .s (.s .z) | exact .s (.s (.s .z)) | exact .s (.s (.s (.s .z))) | exact .s (.s (.s (.s (.s .z)))) | exact .s (.s (.s (.s (.s (.s .z))))) | exact .s (.s (.s (.s (.s (.s (.s .z))))))) rfl rfl rfl ?_
          refine o_callM ([box b5 35 (stepV x)] ++ dkC gd Ak ck Ac cc (d.arm x.N)) (rkC g m d) [] (rkF g m) rfl rfl rfl rfl Try.call34 rk_lend rk_lend' (fun w1 h1 h2 => armR g m d x.N w1 h2.cx) (fun _ _ => ?_)
          refine triL_nil ?_
          refine blockQ_normal ?_
          refine thenQ_normal ?_
          refine tri_seq ?_
          refine tri_slots [] (.nil _) ?_
          refine tri_region ?_
          refine o_assign rfl rfl ?_
          refine triL_nil ?_
          refine thenQ_normal ?_
          refine tri_ret ?_
          refine end1 rfl rfl ?_
          have e : d.step x = d.arm x.N := by rw [Dk.step, if_neg c0, if_neg c1, if_neg c2, if_pos c3]
          exact fin_turn ((Ac, cc), m) rfl (by rw [e]; unfold Dk.arm; split <;> exact hok) (fun w1 hw => by rw [e]; exact hw.sublist (List.Sublist.cons _ (List.Sublist.cons_cons _ (List.Sublist.cons_cons _ (List.Sublist.cons_cons _ (List.Sublist.refl _))))))
        · skip
          refine tri_seq ?_
          refine tri_region ?_
          refine o_eqlI rfl rfl rfl ?_
          refine o_assign rfl rfl ?_
          refine triL_nil ?_
          refine thenQ_normal ?_
          refine tri_if rfl (fun c4 => ?_) (fun c4 => ?_)
          · skip
            refine tri_seq ?_
            refine tri_slots [(5, _), (0, _), (1, _)] (.cons rfl (.cons rfl (.cons rfl (.nil _)))) ?_
            refine tri_region ?_
            refine o_move rfl rfl ?_
            refine o_field fo35_4 rfl rfl ?_
            refine o_load agg23 (by first | exact Nth.z | exact .s .z | exact .s (.s .z) | exact .s (.s (.s .z)) | exact .s (.s (.s (.s .z))) | exact .s (.s (.s (.s (.s .z)))) | exact .s (.s (.s (.s (.s (.s .z))))) | exact .s (.s (.s (.s (.s (.s (.s .z))))))) rfl rfl rfl ?_
            refine o_callM [box b5 35 (stepV x)] (dkC gd Ak ck Ac cc d) (rkC g m d) (dkF gd Ak Ac) rfl rfl rfl rfl Try.call17 dk_lend dk_lend' (fun w1 h1 h2 => cutK gd Ak ck Ac cc d x.KA x.kn x.kc x.keep w1 h2.cx hg hm (Keeps.callM (L := [_]) (D := dkC gd Ak ck Ac cc d) (R := rkC g m d) hx.2.2.1 h1 dk_lend') hx.2.2.2) (fun _ _ => ?_)
            rw [show d.cutI x.keep = d.cut x.keep by rw [Dk.cutI, if_neg hne]]
            refine triL_nil ?_
            refine thenQ_normal ?_
            refine tri_slots [(5, _), (1, _)] (.cons rfl (.cons rfl (.nil _))) ?_
            refine tri_region ?_
            refine o_move rfl rfl ?_
            refine o_field fo35_4 rfl rfl ?_
            refine o_load agg23 (by first | exact Nth.z | exact .s .z | exact .s (.s .z) | exact .s (.s (.s .z)) | exact .s (.s (.s (.s .z))) | exact .s (.s (.s (.s (.s .z)))) | exact .s (.s (.s (.s (.s (.s .z))))) | exact .s (.s (.s (.s (.s (.s (.s .z))))))) rfl rfl rfl ?_
            refine o_callM ([box b5 35 (stepV x)] ++ dkC gd Ak ck Ac cc (d.cut x.keep)) (rkC g m d) [] (rkF g m) rfl rfl rfl rfl Try.call35 rk_lend rk_lend' (fun w1 h1 h2 => cutR g m d x.KA x.kn x.kc x.keep w1 h2.cx hok hg hm (Keeps.callM (L := ([box b5 35 (stepV x)] ++ dkC gd Ak ck Ac cc (d.cut x.keep))) (D := rkC g m d) (R := []) hx.2.2.1 h1 rk_lend') hx.2.2.2) (fun v hv => ?_)
            refine triL_nil ?_
            refine blockQ_normal ?_
            refine thenQ_normal ?_
            refine tri_seq ?_
            refine tri_slots [] (.nil _) ?_
            refine tri_region ?_
            refine o_assign rfl rfl ?_
            refine triL_nil ?_
            refine thenQ_normal ?_
            refine tri_ret ?_
            refine end1 rfl rfl ?_
            have e : d.step x = d.cut x.keep := by rw [Dk.step, if_neg c0, if_neg c1, if_neg c2, if_neg c3, if_pos c4]
            exact fin_turn ((Ac, cc), v) rfl (by rw [e]; exact hv) (fun w1 hw => by rw [e]; exact hw.sublist (List.Sublist.cons _ (List.Sublist.cons_cons _ (List.Sublist.cons_cons _ (List.Sublist.cons_cons _ (List.Sublist.refl _))))))
          · skip
            refine tri_skip ?_
            refine blockQ_normal ?_
            refine thenQ_normal ?_
            refine tri_seq ?_
            refine tri_slots [] (.nil _) ?_
            refine tri_region ?_
            refine o_assign rfl rfl ?_
            refine triL_nil ?_
            refine thenQ_normal ?_
            refine tri_ret ?_
            refine end1 rfl rfl ?_
            have e : d.step x = d := by rw [Dk.step, if_neg c0, if_neg c1, if_neg c2, if_neg c3, if_neg c4]
            exact fin_turn ((Ac, cc), m) rfl (by rw [e]; exact hok) (fun w1 hw => by rw [e]; exact hw.sublist (List.Sublist.cons _ (List.Sublist.cons_cons _ (List.Sublist.cons_cons _ (List.Sublist.cons_cons _ (List.Sublist.refl _))))))

theorem twiceL (g1 : Nat) (K1 : Option Addr) (k1 : Nat) (C1 : Option Addr) (n1 : Nat) (a : Dk) (g2 : Nat) (K2 : Option Addr) (k2 : Nat) (C2 : Option Addr) (n2 : Nat) (b : Dk) (x : Stp) (w : World) (hs : Sat ⟨Try.prog, 76, [], w, dkF g1 K1 C1 ++ dkF g2 K2 C2⟩ (dkC g1 K1 k1 C1 n1 a ++ dkC g2 K2 k2 C2 n2 b) w) (hga : a.good) (hma : a.cache.length ≤ 100000) (hgb : b.good) (hmb : b.cache.length ≤ 100000) (hx : x.ok w (dkF g1 K1 C1 ++ dkF g2 K2 C2)) : Calls Try.prog 28 #[.pointer (some ⟨g1, 0, none⟩), .pointer (some ⟨g2, 0, none⟩), .agg (stepV x).toArray] w (Turn w (dkF g1 K1 C1 ++ dkF g2 K2 C2) (fun _ : (Option Addr × Nat) × (Option Addr × Nat) => .bool (twiceB a b x)) (fun j => dkC g1 K1 k1 j.1.1 j.1.2 (a.ans x).2.2 ++ dkC g2 K2 k2 j.2.1 j.2.2 (b.ans x).2.2) (fun _ => True)) := by
  refine calls_tri (args := [.pointer (some ⟨g1, 0, none⟩), .pointer (some ⟨g2, 0, none⟩), .agg (stepV x).toArray]) (lent := dkF g1 K1 C1 ++ dkF g2 K2 C2) (H := (dkC g1 K1 k1 C1 n1 a ++ dkC g2 K2 k2 C2 n2 b)) Try.func28 rfl Try.ntmps28 rfl hs ?_
  refine (show Tri _ [(0, _), (1, _), (2, _)] _ _ _ from ?_)
  refine tri_seq ?_
  refine tri_region ?_
  refine o_box _ rfl rfl rfl (fun b5 => ?_)
  refine o_assign rfl rfl ?_
  refine triL_nil ?_
  refine thenQ_normal ?_
  refine tri_seq ?_
  refine tri_seq ?_
  refine tri_region ?_
  refine o_field fo35_0 rfl rfl ?_
  refine o_load agg3 (by first | exact Nth.z | exact .s .z | exact .s (.s .z) | exact .s (.s (.s .z)) | exact .s (.s (.s (.s .z))) | exact .s (.s (.s (.s (.s .z)))) | exact .s (.s (.s (.s (.s (.s .z))))) | exact .s (.s (.s (.s (.s (.s (.s .z))))))) rfl rfl rfl ?_
  refine triL_nil ?_
  refine thenQ_normal ?_
  refine tri_block ?_
  refine tri_seq ?_
  refine tri_region ?_
  refine o_eqlI rfl rfl rfl ?_
  refine o_assign rfl rfl ?_
  refine triL_nil ?_
  refine thenQ_normal ?_
  refine tri_if rfl (fun c0 => ?_) (fun c0 => ?_)
  · skip
    refine tri_seq ?_
    refine tri_slots [(5, _), (0, _), (1, _)] (.cons rfl (.cons rfl (.cons rfl (.nil _)))) ?_
    refine tri_region ?_
    refine o_move rfl rfl ?_
    refine o_field fo35_1 rfl rfl ?_
    refine o_load agg3 (by first | exact Nth.z | exact .s .z | exact .s (.s .z) | exact .s (.s (.s .z)) | exact .s (.s (.s (.s .z))) | exact .s (.s (.s (.s (.s .z)))) | exact .s (.s (.s (.s (.s (.s .z))))) | exact .s (.s (.s (.s (.s (.s (.s .z))))))) rfl rfl rfl ?_
    refine o_callM [box b5 35 (stepV x)] (dkC g1 K1 k1 C1 n1 a) (dkC g2 K2 k2 C2 n2 b) (dkF g1 K1 C1) rfl rfl rfl rfl Try.call18 dk_lend dk_lend' (fun w1 h1 h2 => readK g1 K1 k1 C1 n1 a x.at_ w1 h2.cx hga hma) (fun u _ => ?_)
    obtain ⟨ra, ca, a', hra⟩ : ∃ ra ca a', a.read x.at_ = (ra, ca, a') := ⟨_, _, _, rfl⟩
    rw [hra]
    dsimp only
    refine o_move rfl rfl ?_
    refine o_extract rfl rfl rfl ?_
    refine o_extract rfl rfl rfl ?_
    refine o_assign rfl rfl ?_
    refine o_assign rfl rfl ?_
    refine triL_nil ?_
    refine thenQ_normal ?_
    refine tri_seq ?_
    refine tri_slots [(8, _), (7, _), (5, _), (1, _)] (.cons rfl (.cons rfl (.cons rfl (.cons rfl (.nil _))))) ?_
    refine tri_region ?_
    refine o_move rfl rfl ?_
    refine o_field fo35_1 rfl rfl ?_
    refine o_load agg3 (by first | exact Nth.z | exact .s .z | exact .s (.s .z) | exact .s (.s (.s .z)) | exact .s (.s (.s (.s .z))) | exact .s (.s (.s (.s (.s .z)))) | exact .s (.s (.s (.s (.s (.s .z))))) | exact .s (.s (.s (.s (.s (.s (.s .z))))))) rfl rfl rfl ?_
    refine o_callM ([box b5 35 (stepV x)] ++ (row (.slice u.1 ra.length u.2) 66 1 ra.length (bytesV ra) :: dkC g1 K1 k1 C1 n1 a')) (dkC g2 K2 k2 C2 n2 b) [] (dkF g2 K2 C2) rfl rfl rfl rfl Try.call18 dk_lend dk_lend' (fun w1 h1 h2 => readK g2 K2 k2 C2 n2 b x.at_ w1 h2.cx hgb hmb) (fun v _ => ?_)
    obtain ⟨rb, cb, b', hrb⟩ : ∃ rb cb b', b.read x.at_ = (rb, cb, b') := ⟨_, _, _, rfl⟩
    rw [hrb]
    dsimp only
    refine o_move rfl rfl ?_
    refine o_extract rfl rfl rfl ?_
    refine o_extract rfl rfl rfl ?_
    refine o_assign rfl rfl ?_
    refine o_assign rfl rfl ?_
    refine triL_nil ?_
    refine thenQ_normal ?_
    refine tri_seq ?_
    refine tri_slots [(10, _), (9, _), (8, _), (7, _)] (.cons rfl (.cons rfl (.cons rfl (.cons rfl (.nil _))))) ?_
    refine tri_region ?_
    refine o_move rfl rfl ?_
    refine o_eqlI rfl rfl rfl ?_
    refine o_move rfl rfl ?_
    refine' triL_and [_, _] [(9, _), (7, _)] (dj := 35) (dr := 37) rfl rfl (fun g1 => ?_) ⟨_, rfl, rfl, rfl, (.cons rfl (.cons rfl (.nil _)))⟩ rfl ?_
    rotate_left
    · skip
      skip
      refine o_move rfl rfl ?_
      refine o_eqlI rfl rfl rfl ?_
      exact triL_nil (Piece.mk rfl rfl (.cons rfl (.cons rfl (.nil _))) (fun _ h => h))
    refine o_move rfl rfl ?_
    refine' triL_and [_, _, _, _, _] [] (dj := 39) (dr := 44) rfl rfl (fun g2 => ?_) ⟨_, rfl, rfl, rfl, (.nil _)⟩ rfl ?_
    rotate_left
    · skip
      skip
      refine o_move rfl rfl ?_
      refine o_toText (l := ra) Try.underlying32 Try.underlying5 Try.underlying9 rfl rfl (RdS.row (i := 1) (.s .z)) rfl ?_
      refine o_move rfl rfl ?_
      refine o_toText (l := rb) Try.underlying32 Try.underlying5 Try.underlying9 rfl rfl (RdS.row (i := 5) (.s (.s (.s (.s (.s .z)))))) rfl ?_
      refine o_eqlT rfl rfl rfl ?_
      exact triL_nil (Piece.mk rfl rfl (.nil _) (fun _ h => h))
    refine o_assign rfl rfl ?_
    refine triL_nil ?_
    refine thenQ_normal ?_
    refine tri_ret ?_
    refine blockQ_ret ?_
    refine thenQ_ret ?_
    refine end1 rfl rfl ?_
    have ea : a.ans x = (ca, ra, a') := by rw [Dk.ans, if_pos c0, hra]
    have eb : b.ans x = (cb, rb, b') := by rw [Dk.ans, if_pos c0, hrb]
    exact fin_turn ((C1, n1), (C2, n2)) (by rw [twiceB, ea, eb]) trivial (fun w1 hw => by rw [ea, eb]; exact hw.sublist (List.Sublist.cons _ (List.Sublist.cons _ (List.Sublist.cons_cons _ (List.Sublist.cons_cons _ (List.Sublist.cons_cons _ (List.Sublist.cons _ (List.Sublist.refl _))))))))
  · skip
    refine tri_seq ?_
    refine tri_slots [(16, _), (5, _), (0, _), (1, _)] (.cons rfl (.cons rfl (.cons rfl (.cons rfl (.nil _))))) ?_
    refine tri_region ?_
    refine o_eqlI rfl rfl rfl ?_
    refine o_assign rfl rfl ?_
    refine triL_nil ?_
    refine thenQ_normal ?_
    refine tri_if rfl (fun c1 => ?_) (fun c1 => ?_)
    · skip
      refine tri_seq ?_
      refine tri_region ?_
      refine o_move rfl rfl ?_
      refine o_field fo35_1 rfl rfl ?_
      refine o_load agg3 (by first | exact Nth.z | exact .s .z | exact .s (.s .z) | exact .s (.s (.s .z)) | exact .s (.s (.s (.s .z))) | exact .s (.s (.s (.s (.s .z)))) | exact .s (.s (.s (.s (.s (.s .z))))) | exact .s (.s (.s (.s (.s (.s (.s .z))))))) rfl rfl rfl ?_
      refine o_field fo35_2 rfl rfl ?_
      refine o_load agg32 (by first | exact Nth.z | exact .s .z | exact .s (.s .z) | exact .s (.s (.s .z)) | exact .s (.s (.s (.s .z))) | exact .s (.s (.s (.s (.s .z)))) | exact .s (.s (.s (.s (.s (.s .z))))) | exact .s (.s (.s (.s (.s (.s (.s .z))))))) rfl rfl rfl ?_
      refine o_callM [box b5 35 (stepV x)] (dkC g1 K1 k1 C1 n1 a) (dkC g2 K2 k2 C2 n2 b) (dkF g1 K1 C1) rfl rfl rfl rfl Try.call13 dk_lend dk_lend' (fun w1 h1 h2 => writeK g1 K1 k1 C1 n1 a x.at_ x.A x.n x.c x.b w1 h2.cx hga hma (Keeps.callM (L := [box b5 35 (stepV x)]) (D := dkC g1 K1 k1 C1 n1 a) (R := dkC g2 K2 k2 C2 n2 b) hx.1 h1 dk_lend') hx.2.1) (fun u _ => ?_)
      refine o_assign rfl rfl ?_
      refine triL_nil ?_
      refine thenQ_normal ?_
      refine tri_seq ?_
      refine tri_slots [(11, _), (5, _), (1, _)] (.cons rfl (.cons rfl (.cons rfl (.nil _)))) ?_
      refine tri_region ?_
      refine o_move rfl rfl ?_
      refine o_field fo35_1 rfl rfl ?_
      refine o_load agg3 (by first | exact Nth.z | exact .s .z | exact .s (.s .z) | exact .s (.s (.s .z)) | exact .s (.s (.s (.s .z))) | exact .s (.s (.s (.s (.s .z)))) | exact .s (.s (.s (.s (.s (.s .z))))) | exact .s (.s (.s (.s (.s (.s (.s .z))))))) rfl rfl rfl ?_
      refine o_field fo35_2 rfl rfl ?_
      refine o_load agg32 (by first | exact Nth.z | exact .s .z | exact .s (.s .z) | exact .s (.s (.s .z)) | exact .s (.s (.s (.s .z))) | exact .s (.s (.s (.s (.s .z)))) | exact .s (.s (.s (.s (.s (.s .z))))) | exact .s (.s (.s (.s (.s (.s (.s .z))))))) rfl rfl rfl ?_
      refine o_callM ([box b5 35 (stepV x)] ++ (dkC g1 K1 k1 u.1 u.2 (a.write x.at_ x.b).2)) (dkC g2 K2 k2 C2 n2 b) [] (dkF g2 K2 C2) rfl rfl rfl rfl Try.call13 dk_lend dk_lend' (fun w1 h1 h2 => writeK g2 K2 k2 C2 n2 b x.at_ x.A x.n x.c x.b w1 h2.cx hgb hmb (Keeps.callM (L := ([box b5 35 (stepV x)] ++ (dkC g1 K1 k1 u.1 u.2 (a.write x.at_ x.b).2))) (D := dkC g2 K2 k2 C2 n2 b) (R := []) hx.1 h1 dk_lend') hx.2.1) (fun v _ => ?_)
      refine o_assign rfl rfl ?_
      refine triL_nil ?_
      refine thenQ_normal ?_
      refine tri_seq ?_
      refine tri_slots [(12, _), (11, _)] (.cons rfl (.cons rfl (.nil _))) ?_
      refine tri_region ?_
      refine o_move rfl rfl ?_
      refine o_eqlI rfl rfl rfl ?_
      refine o_move rfl rfl ?_
      refine' triL_and [_, _] [] (dj := 62) (dr := 64) rfl rfl (fun g3 => ?_) ⟨_, rfl, rfl, rfl, (.nil _)⟩ rfl ?_
      rotate_left
      · skip
        skip
        refine o_move rfl rfl ?_
        refine o_eqlI rfl rfl rfl ?_
        exact triL_nil (Piece.mk rfl rfl (.nil _) (fun _ h => h))
      refine o_assign rfl rfl ?_
      refine triL_nil ?_
      refine thenQ_normal ?_
      refine tri_ret ?_
      refine blockQ_ret ?_
      refine thenQ_ret ?_
      refine end1 rfl rfl ?_
      have ea : a.ans x = ((a.write x.at_ x.b).1, [], (a.write x.at_ x.b).2) := by rw [Dk.ans, if_neg c0, if_pos c1]
      have eb : b.ans x = ((b.write x.at_ x.b).1, [], (b.write x.at_ x.b).2) := by rw [Dk.ans, if_neg c0, if_pos c1]
      exact fin_turn (u, v) (by rw [twiceB, ea, eb]; simp) trivial (fun w1 hw => by rw [ea, eb]; exact hw.sublist (List.Sublist.cons _ (List.Sublist.cons_cons _ (List.Sublist.cons_cons _ (List.Sublist.cons_cons _ (List.Sublist.refl _))))))
    · skip
      refine tri_skip ?_
      refine blockQ_normal ?_
      refine thenQ_normal ?_
      refine tri_seq ?_
      refine tri_slots [(0, _), (1, _)] (.cons rfl (.cons rfl (.nil _))) ?_
      refine tri_region ?_
      refine o_move rfl rfl ?_
      refine o_callM [box b5 35 (stepV x)] (dkC g1 K1 k1 C1 n1 a) (dkC g2 K2 k2 C2 n2 b) (dkF g1 K1 C1) rfl rfl rfl rfl Try.call15 dk_lend dk_lend' (fun w1 h1 h2 => syncK g1 K1 k1 C1 n1 a w1 h2.cx hga hma) (fun _ _ => ?_)
      refine o_assign rfl rfl ?_
      refine triL_nil ?_
      refine thenQ_normal ?_
      refine tri_seq ?_
      refine tri_region ?_
      refine o_move rfl rfl ?_
      refine o_callM ([box b5 35 (stepV x)] ++ (dkC g1 K1 k1 C1 n1 a.syncI.2)) (dkC g2 K2 k2 C2 n2 b) [] (dkF g2 K2 C2) rfl rfl rfl rfl Try.call15 dk_lend dk_lend' (fun w1 h1 h2 => syncK g2 K2 k2 C2 n2 b w1 h2.cx hgb hmb) (fun _ _ => ?_)
      refine o_assign rfl rfl ?_
      refine triL_nil ?_
      refine thenQ_normal ?_
      refine tri_seq ?_
      refine tri_slots [(14, _), (13, _)] (.cons rfl (.cons rfl (.nil _))) ?_
      refine tri_region ?_
      refine o_move rfl rfl ?_
      refine o_eqlI rfl rfl rfl ?_
      refine o_move rfl rfl ?_
      refine' triL_and [_, _] [] (dj := 72) (dr := 74) rfl rfl (fun g4 => ?_) ⟨_, rfl, rfl, rfl, (.nil _)⟩ rfl ?_
      rotate_left
      · skip
        skip
        refine o_move rfl rfl ?_
        refine o_eqlI rfl rfl rfl ?_
        exact triL_nil (Piece.mk rfl rfl (.nil _) (fun _ h => h))
      refine o_assign rfl rfl ?_
      refine triL_nil ?_
      refine thenQ_normal ?_
      refine tri_ret ?_
      refine end1 rfl rfl ?_
      have ea : a.ans x = (a.syncI.1, [], a.syncI.2) := by rw [Dk.ans, if_neg c0, if_neg c1]
      have eb : b.ans x = (b.syncI.1, [], b.syncI.2) := by rw [Dk.ans, if_neg c0, if_neg c1]
      exact fin_turn ((C1, n1), (C2, n2)) (by rw [twiceB, ea, eb]; simp) trivial (fun w1 hw => by rw [ea, eb]; exact hw.sublist (List.Sublist.cons _ (List.Sublist.cons_cons _ (List.Sublist.cons_cons _ (List.Sublist.cons_cons _ (List.Sublist.refl _))))))

end Go.Proofs.Ytpnccaddbjbfhaa
