/- what the laws of the disk call, walked -/
import Derived.Test.YtpnccaddbjbfhaaWalks4
import Derived.Test.YtpnccaddbjbfhaaDisk4
namespace Go.Proofs.Ytpnccaddbjbfhaa
open Go.WK Go.RowKit 

theorem zs32 : (Try.prog.info? 32).map (fun i => (i.zero, i.size)) = some (some (.slice none 0 0), 1) := by kernel_rfl
theorem zsb32 : (Try.prog.info? 32).map (fun i => (i.zero, i.size, i.bytes)) = some (some (.slice none 0 0), 1, 24) := by kernel_rfl
theorem built55_2 (x2 : Int) : Try.prog.built 55 [(2, .int .i64 x2)] = some ([.slice none 0 0, .slice none 0 0, .int .i64 x2, .bool false, .int .i64 0, .int .i64 0, .int .i64 0] : List Value).toArray := by rfl
theorem sz30 : szB Try.prog 30 = some 1 := by kernel_rfl
theorem sz35 : szB Try.prog 35 = some 5 := by kernel_rfl
theorem fo35_2 : fieldB Try.prog 35 2 = some 2 := by kernel_rfl
theorem fo35_4 : fieldB Try.prog 35 4 = some 4 := by kernel_rfl
theorem agg23 : aggB Try.prog 23 = some false := by kernel_rfl
theorem zs4 : (Try.prog.info? 4).map (fun i => (i.zero, i.size)) = some (some (.bool false), 1) := by kernel_rfl

theorem newR (n : Nat) (w : World) (h1 : 1 ≤ n) (h2 : n ≤ 8192) : Calls Try.prog 24 #[.int .i64 (n : Int)] w (Turn w [] (fun j : Nat × Rk => .pointer (some ⟨j.1, 0, none⟩)) (fun j => rkC j.1 j.2 (Dk.new n)) (fun j => j.2.ok (Dk.new n))) := by
  refine calls_tri (args := [.int .i64 (n : Int)]) (lent := []) (H := []) Try.func24 rfl Try.ntmps24 rfl (Sat.start _ _ _ _) ?_
  refine (show Tri _ [(0, _)] _ _ _ from ?_)
  refine tri_seq ?_
  refine tri_region ?_
  refine o_assign rfl rfl ?_
  refine triL_nil ?_
  refine thenQ_normal ?_
  refine tri_seq ?_
  refine tri_seq ?_
  refine tri_region ?_
  refine o_move rfl rfl ?_
  refine o_lss rfl rfl rfl ?_
  refine o_move rfl rfl ?_
  refine' triL_or [_, _] [(0, _)] (dj := 7) (dr := 9) rfl rfl (fun g1 => ?_) ⟨_, rfl, rfl, rfl, (.cons rfl (.nil _))⟩ rfl ?_
  rotate_left
  · skip
    skip
    refine o_move rfl rfl ?_
    refine o_gtr rfl rfl rfl ?_
    exact triL_nil (Piece.mk rfl rfl (.cons rfl (.nil _)) (fun _ h => h))
  refine triL_nil ?_
  refine thenQ_normal ?_
  refine tri_cond rfl (fun h0 => ?_) (fun h0 => ?_)
  · skip
    exact absurd h0 (by simp; omega)
  · skip
    refine tri_skip ?_
    refine thenQ_normal ?_
    refine tri_seq ?_
    refine tri_region ?_
    refine o_build (built55_2 _) rfl rfl ?_
    refine o_box _ rfl rfl rfl (fun b12 => ?_)
    refine o_assign rfl rfl ?_
    refine triL_nil ?_
    refine thenQ_normal ?_
    refine tri_seq ?_
    refine tri_seq ?_
    refine tri_region ?_
    refine o_assign rfl rfl ?_
    refine triL_nil ?_
    refine thenQ_normal ?_
    refine tri_block ?_
    refine tri_loop (ι := Nat × Rk) (F := fun q => [(0, .int .i64 (n : Int)), (3, .pointer (some ⟨b12, 0, none⟩)), (4, .int .i64 (q.1 : Int))]) (HH := fun q => (rkC b12 q.2 (Dk.new n))) (Pu := fun q => q.1 ≤ n ∧ q.2.kr.length = q.1 ∧ q.2.cr = [] ∧ okK q.2.kr (List.replicate q.1 zsec) q.2.pool) (μ := fun q => n - q.1) ((0, Rk.nil)) (.cons rfl (.cons rfl (.cons rfl (.nil _)))) (fun w1 hw => rk_start (d := Dk.new n) hw) (⟨Nat.zero_le _, rfl, rfl, okK_nil⟩) (fun q hi => ?_)
    refine tri_seq ?_
    refine tri_seq ?_
    refine tri_region ?_
    refine o_move rfl rfl ?_
    refine o_move rfl rfl ?_
    refine o_lss rfl rfl rfl ?_
    refine triL_nil ?_
    refine thenQ_normal ?_
    refine tri_if rfl (fun h3 => ?_) (fun h3 => ?_)
    · skip
      refine tri_skip ?_
      refine thenQ_normal ?_
      refine tri_seq ?_
      refine tri_block ?_
      refine tri_mix ([box b12 55 [.slice q.2.Ak q.2.kr.length q.2.ck, .slice q.2.Ac q.2.cr.length q.2.cc, .int .i64 (Dk.new n).trip, .bool (Dk.new n).dark, .int .i64 (Dk.new n).r, .int .i64 (Dk.new n).w, .int .i64 (Dk.new n).s]]) [(0, true), (1, true), (2, true), (3, true), (4, true), (5, false), (6, false), (7, false), (8, false), (9, false), (10, false)] [8, 9, 10] (by kernel_rfl) (by kernel_rfl) (fun _ h => h.sublist (List.Sublist.cons_cons _ (List.nil_sublist _))) ?_
      refine mix_fix rfl ?_
      refine o_move rfl rfl ?_
      refine triL_nil ⟨rfl, ?_⟩
      refine mix_fix rfl ?_
      refine o_move rfl rfl ?_
      refine triL_nil ⟨rfl, ?_⟩
      refine mix_fix rfl ?_
      refine o_nilCheck rfl rfl ?_
      refine triL_nil ⟨rfl, ?_⟩
      refine mix_fix rfl ?_
      refine o_field fo55_0 rfl rfl ?_
      refine triL_nil ⟨rfl, ?_⟩
      refine mix_fix rfl ?_
      refine o_load agg30 (by first | exact Nth.z | exact .s .z | exact .s (.s .z) | exact .s (.s (.s .z)) | exact .s (.s (.s (.s .z))) | exact .s (.s (.s (.s (.s .z)))) | exact .s (.s (.s (.s (.s (.s .z))))) | exact .s (.s (.s (.s (.s (.s (.s .z))))))) rfl rfl rfl ?_
      refine triL_nil ⟨rfl, ?_⟩
      refine mix_op rfl ?_
      refine o_make (n := 512) Try.underlying32 zsb5 rfl rfl rfl (by omega) (by omega) (by omega) (by unfold maxLen; omega) (fun b23 => ?_)
      refine triL_nil ⟨rfl, fun _ _ h => h.tail.sublist (List.Sublist.cons_cons _ (List.nil_sublist _)), ?_⟩
      refine mix_op rfl ?_
      refine o_lit1 (vs := refV (some ⟨b23, 0, none⟩, 512)) Try.underlying30 zs32 rfl rfl rfl rfl rfl (by decide) (by decide) (fun b24 => ?_)
      refine triL_nil ⟨rfl, fun _ _ h => h.tail.tail.sublist (List.Sublist.cons_cons _ (List.nil_sublist _)), ?_⟩
      refine mix_op rfl ?_
      refine o_append (news := refV (some ⟨b23, 0, none⟩, 512)) Try.underlying30 zsb32 rfl (by decide) (.s (.s (.s .z))) rfl rfl rfl (RdS.row .z) rfl (allOne_spec rfl) (by unfold maxLen; omega) (by omega) (fun A25 c25 => ?_)
      refine triL_nil ⟨rfl, fun _ _ h => h.tail.tail.sublist (List.Sublist.cons_cons _ (List.nil_sublist _)), ?_⟩
      refine mix_rest [8, 9, 10] [_, _, _] rfl rfl ?_
      refine o_nilCheck rfl rfl ?_
      refine o_field fo55_0 rfl rfl ?_
      refine o_store sz30 (by first | exact Nth.z | exact .s .z | exact .s (.s .z) | exact .s (.s (.s .z)) | exact .s (.s (.s (.s .z))) | exact .s (.s (.s (.s (.s .z)))) | exact .s (.s (.s (.s (.s (.s .z))))) | exact .s (.s (.s (.s (.s (.s (.s .z))))))) rfl rfl rfl rfl rfl (Nat.le_of_ble_eq_true rfl) rfl ?_
      refine triL_nil ⟨rfl, ?_⟩
      refine blockQ_normal ?_
      refine thenQ_normal ?_
      refine tri_slots [(0, _), (3, _), (4, _)] (.cons rfl (.cons rfl (.cons rfl (.nil _)))) ?_
      refine tri_region ?_
      refine o_move rfl rfl ?_
      refine o_addN rfl rfl rfl (by omega) ?_
      refine o_assign rfl rfl ?_
      refine triL_nil ?_
      refine thenQ_normal ?_
      exact ⟨(q.1 + 1, { q.2 with Ak := A25, ck := c25, kr := q.2.kr ++ [(some ⟨b23, 0, none⟩, 512)], F := blk (some ⟨b23, 0, none⟩) ++ q.2.F, pool := (some ⟨b23, 0, none⟩, 512, zsec) :: q.2.pool }), (.cons rfl (.cons rfl (.cons rfl (.nil _)))), (fun w1 hw1 => by
  have e2 := rk_snocK (g := b12) (A := A25) (c := c25) (m := { q.2 with F := blk (some ⟨b23, 0, none⟩) ++ q.2.F, pool := (some ⟨b23, 0, none⟩, 512, zsec) :: q.2.pool }) (d := Dk.new n) (some ⟨b23, 0, none⟩, 512)
  simp only at e2 ⊢
  rw [e2]
  have h9 := hw1.tail
  rw [bytes_zeros] at h9
  exact h9.pool (.s (.s (.s .z)))), ⟨by simp only; omega, by simp only [List.length_append, List.length_singleton]; omega, hi.2.2.1, by simp only [List.replicate_succ']; exact okK_snoc (okK_mono hi.2.2.2 _) List.mem_cons_self⟩, (by simp only; omega)⟩
    · skip
      refine tri_exit ?_
      refine thenQ_exit ?_
      refine thenQ_exit ?_
      refine blockQ_here ?_
      refine thenQ_normal ?_
      refine tri_seq ?_
      refine tri_slots [(3, _)] (.cons rfl (.nil _)) ?_
      refine tri_region ?_
      refine o_move rfl rfl ?_
      refine o_assign rfl rfl ?_
      refine triL_nil ?_
      refine thenQ_normal ?_
      refine tri_ret ?_
      refine end1 rfl rfl ?_
      have hq : q.1 = n := by omega
      exact fin_turn (b12, q.2) rfl ⟨by have := hi.2.2.2; rw [hq] at this; exact this, by rw [hi.2.2.1]; exact okC_nil _⟩ (fun w1 hw => hw)

theorem fullL (x : UInt8) (w : World)  : Calls Try.prog 12 #[byteV x] w (NewRowF id w 5 1 512 (bytesV (ful x))) := by
  refine calls_tri (args := [byteV x]) (lent := []) (H := []) Try.func12 rfl Try.ntmps12 rfl (Sat.start _ _ _ _) ?_
  refine (show Tri _ [(0, _)] _ _ _ from ?_)
  refine tri_seq ?_
  refine tri_region ?_
  refine o_assign rfl rfl ?_
  refine triL_nil ?_
  refine thenQ_normal ?_
  refine tri_seq ?_
  refine tri_region ?_
  refine o_assign rfl rfl ?_
  refine triL_nil ?_
  refine thenQ_normal ?_
  refine tri_seq ?_
  refine tri_seq ?_
  refine tri_region ?_
  refine o_assign rfl rfl ?_
  refine triL_nil ?_
  refine thenQ_normal ?_
  refine tri_block ?_
  refine tri_loop (ι := Nat × Option Addr × Nat) (F := fun q => [(0, byteV x), (3, .slice q.2.1 q.1 q.2.2), (4, .int .i64 (q.1 : Int))]) (HH := fun q => [row (.slice q.2.1 q.1 q.2.2) 5 1 q.1 (bytesV (List.replicate q.1 x))]) (Pu := fun q => q.1 ≤ 512) (μ := fun q => 512 - q.1) ((0, none, 0)) (.cons rfl (.cons rfl (.cons rfl (.nil _)))) (fun _ h => h.nilRow _ _) (Nat.zero_le _) (fun q hi => ?_)
  refine tri_seq ?_
  refine tri_seq ?_
  refine tri_region ?_
  refine o_move rfl rfl ?_
  refine o_lss rfl rfl rfl ?_
  refine triL_nil ?_
  refine thenQ_normal ?_
  refine tri_if rfl (fun h0 => ?_) (fun h0 => ?_)
  · skip
    refine tri_skip ?_
    refine thenQ_normal ?_
    refine tri_seq ?_
    refine tri_block ?_
    refine tri_region ?_
    refine o_move rfl rfl ?_
    refine o_move rfl rfl ?_
    refine o_lit1 (vs := bytesV [x]) Try.underlying32 zs5 rfl rfl rfl rfl rfl (by decide) (by decide) (fun b11 => ?_)
    refine o_append Try.underlying32 zsb5 rfl (by decide) (by first | exact Nth.z | exact .s .z | exact .s (.s .z) | exact .s (.s (.s .z)) | exact .s (.s (.s (.s .z))) | exact .s (.s (.s (.s (.s .z)))) | exact .s (.s (.s (.s (.s (.s .z))))) | exact .s (.s (.s (.s (.s (.s (.s .z))))))) rfl rfl rfl (news := bytesV [x]) (RdS.row .z) rfl (bytesV_one _) (by unfold maxLen; omega) (by omega) (fun A12 c12 => ?_)
    refine o_assign rfl rfl ?_
    refine triL_nil ?_
    refine blockQ_normal ?_
    refine thenQ_normal ?_
    refine tri_slots [(3, _), (0, _), (4, _)] (.cons rfl (.cons rfl (.cons rfl (.nil _)))) ?_
    refine tri_region ?_
    refine o_move rfl rfl ?_
    refine o_addN rfl rfl rfl (by omega) ?_
    refine o_assign rfl rfl ?_
    refine triL_nil ?_
    refine thenQ_normal ?_
    exact ⟨(q.1 + 1, A12, c12), (.cons rfl (.cons rfl (.cons rfl (.nil _)))), (fun w1 hw1 => by simp only [ful_snoc, bytesV_append]; exact hw1.tail), by simp only; omega, (by simp only; omega)⟩
  · skip
    refine tri_exit ?_
    refine thenQ_exit ?_
    refine thenQ_exit ?_
    refine blockQ_here ?_
    refine thenQ_normal ?_
    refine tri_seq ?_
    refine tri_slots [(3, _)] (.cons rfl (.nil _)) ?_
    refine tri_region ?_
    refine o_move rfl rfl ?_
    refine o_assign rfl rfl ?_
    refine triL_nil ?_
    refine thenQ_normal ?_
    refine tri_ret ?_
    refine end1 rfl rfl ?_
    have hq : q.1 = 512 := by omega
    rw [hq]
    exact fin_row id .z

theorem longL (A : Option Addr) (n c : Nat) (l : List Stp) (w : World) (hr : Rd w A (stepsV l)) (hn : l.length = n) : Calls Try.prog 10 #[.slice A n c] w (Pure w (.bool (longB l))) := by
  refine calls_tri (args := [.slice A n c]) (lent := []) (H := []) Try.func10 rfl Try.ntmps10 rfl (Sat.start _ _ _ _) ?_
  refine (show Tri _ [(0, _)] _ _ _ from ?_)
  have hR : ∀ cx H, cx.w0 = w → cx.lent = [] → RdS cx H A (stepsV l) := fun cx H h1 h2 => RdS.arg (by rw [h1]; exact hr) h2
  refine tri_seq ?_
  refine tri_region ?_
  refine o_assign rfl rfl ?_
  refine triL_nil ?_
  refine thenQ_normal ?_
  refine tri_seq ?_
  refine tri_seq ?_
  refine tri_region ?_
  refine o_assign rfl rfl ?_
  refine triL_nil ?_
  refine thenQ_normal ?_
  refine tri_block ?_
  refine tri_loop (ι := Nat) (F := fun q => [(0, .slice A n c), (3, .int .i64 (q : Int))]) (HH := fun q => []) (Pu := fun q => q ≤ n ∧ q ≤ 201 ∧ ∀ s ∈ l.take q, ¬ (1024 < s.n ∨ 400 < s.kn)) (μ := fun q => 201 - q) (0) (.cons rfl (.cons rfl (.nil _))) (fun _ h => h) (⟨Nat.zero_le _, Nat.zero_le _, by simp⟩) (fun q hi => ?_)
  refine tri_seq ?_
  refine tri_seq ?_
  refine tri_region ?_
  refine o_move rfl rfl ?_
  refine o_move rfl rfl ?_
  refine o_lenS Try.underlying22 rfl rfl ?_
  refine o_lss rfl rfl rfl ?_
  refine o_move rfl rfl ?_
  refine' triL_and [_, _] [(0, _), (3, _)] (dj := 8) (dr := 10) rfl rfl (fun g1 => ?_) ⟨_, rfl, rfl, rfl, (.cons rfl (.cons rfl (.nil _)))⟩ rfl ?_
  rotate_left
  · skip
    have g1 := of_decide_eq_true g1
    refine o_move rfl rfl ?_
    refine o_leq rfl rfl rfl ?_
    exact triL_nil (Piece.mk rfl rfl (.cons rfl (.cons rfl (.nil _))) (fun _ h => h))
  refine triL_nil ?_
  refine thenQ_normal ?_
  refine tri_cond rfl (fun h0 => ?_) (fun h0 => ?_)
  · skip
    simp only [Bool.and_eq_true, decide_eq_true_eq] at h0
    refine tri_skip ?_
    refine thenQ_normal ?_
    refine tri_seq ?_
    refine tri_block ?_
    refine tri_seq ?_
    refine tri_region ?_
    refine o_move rfl rfl ?_
    refine o_move rfl rfl ?_
    refine o_idxS Try.underlying22 sz35 rfl rfl rfl (hR _ _ rfl rfl) (by omega) (by omega) (by rw [steps_length, hn]) (by decide) ?_
    refine o_fieldAt fo35_2 rfl rfl (hR _ _ rfl rfl) (steps_get l q 0 (by omega) (by decide)) ?_
    refine o_loadR agg32 rfl rfl (hR _ _ rfl rfl) (steps_get l q 2 (by omega) (by decide)) ?_
    refine o_lenS Try.underlying32 rfl rfl ?_
    refine o_gtr rfl rfl rfl ?_
    refine o_move rfl rfl ?_
    refine' triL_or [_, _, _, _, _, _, _] [(0, _), (3, _)] (dj := 21) (dr := 28) rfl rfl (fun g2 => ?_) ⟨_, rfl, rfl, rfl, (.cons rfl (.cons rfl (.nil _)))⟩ rfl ?_
    rotate_left
    · skip
      skip
      refine o_move rfl rfl ?_
      refine o_move rfl rfl ?_
      refine o_idxS Try.underlying22 sz35 rfl rfl rfl (hR _ _ rfl rfl) (by omega) (by omega) (by rw [steps_length, hn]) (by decide) ?_
      refine o_fieldAt fo35_4 rfl rfl (hR _ _ rfl rfl) (steps_get l q 0 (by omega) (by decide)) ?_
      refine o_loadR agg23 rfl rfl (hR _ _ rfl rfl) (steps_get l q 4 (by omega) (by decide)) ?_
      refine o_lenS Try.underlying23 rfl rfl ?_
      refine o_gtr rfl rfl rfl ?_
      exact triL_nil (Piece.mk rfl rfl (.cons rfl (.cons rfl (.nil _))) (fun _ h => h))
    refine triL_nil ?_
    refine thenQ_normal ?_
    refine tri_cond rfl (fun h1 => ?_) (fun h1 => ?_)
    · skip
      have h1 : 1024 < (l.getD q Stp.nil).n ∨ 400 < (l.getD q Stp.nil).kn := by
        simp only [Bool.or_eq_true, decide_eq_true_eq] at h1; omega
      refine tri_seq ?_
      refine tri_region ?_
      refine o_assign rfl rfl ?_
      refine triL_nil ?_
      refine thenQ_normal ?_
      refine tri_ret ?_
      refine blockQ_ret ?_
      refine thenQ_ret ?_
      refine thenQ_ret ?_
      refine blockQ_ret ?_
      refine thenQ_ret ?_
      refine end1 rfl rfl ?_
      exact fun w1 hw1 => ⟨by rw [longB_at (by omega) (by omega) h1], hw1.chg⟩
    · skip
      have h1 : ¬ (1024 < (l.getD q Stp.nil).n ∨ 400 < (l.getD q Stp.nil).kn) := by
        simp only [Bool.or_eq_false_iff, decide_eq_false_iff_not] at h1; omega
      refine tri_skip ?_
      refine blockQ_normal ?_
      refine thenQ_normal ?_
      refine tri_region ?_
      refine o_move rfl rfl ?_
      refine o_addN rfl rfl rfl (by omega) ?_
      refine o_assign rfl rfl ?_
      refine triL_nil ?_
      refine thenQ_normal ?_
      exact ⟨q + 1, (.cons rfl (.cons rfl (.nil _))), fun _ h => h, ⟨by omega, by omega, fun s hs => by rw [take_snocS l q (by omega)] at hs; rcases List.mem_append.1 hs with hs | hs; exact hi.2.2 s hs; obtain rfl := List.mem_singleton.1 hs; exact h1⟩, by omega⟩
  · skip
    simp only [Bool.and_eq_false_iff, decide_eq_false_iff_not] at h0
    refine tri_exit ?_
    refine thenQ_exit ?_
    refine thenQ_exit ?_
    refine blockQ_here ?_
    refine thenQ_normal ?_
    refine tri_seq ?_
    refine tri_region ?_
    refine o_move rfl rfl ?_
    refine o_lenS Try.underlying22 rfl rfl ?_
    refine o_gtr rfl rfl rfl ?_
    refine o_assign rfl rfl ?_
    refine triL_nil ?_
    refine thenQ_normal ?_
    refine tri_ret ?_
    refine end1 rfl rfl ?_
    have e : longB l = decide ((n : Int) > 200) := by
      rw [longB_none (fun s hs => hi.2.2 s (take_in (by omega) hs))]
      exact decide_eq_decide.2 (by omega)
    exact fun w1 hw1 => ⟨by rw [e], hw1.chg⟩

theorem aliveL  (w : World)  : Calls Try.prog 11 #[] w (Pure w (.bool true)) := by
  refine calls_tri (args := []) (lent := []) (H := []) Try.func11 rfl Try.ntmps11 rfl (Sat.start _ _ _ _) ?_
  refine (show Tri _ [] _ _ _ from ?_)
  obtain ⟨d1, d2, d3, d4, d5, d6, e1, e2, e3, e4, e5, e6, e7, e8, ⟨g1, g2, g3, g4, g5⟩, ⟨m1, m2, m3, m4, m5⟩⟩ := alive_facts
  refine tri_seq ?_
  refine tri_region ?_
  refine o_assign rfl rfl ?_
  refine triL_nil ?_
  refine thenQ_normal ?_
  refine tri_seq ?_
  refine tri_region ?_
  refine o_callM [] [] [] [] (vs := [.int .i64 2]) rfl rfl rfl rfl Try.call9 (fun c hc => by cases hc) (fun c hc => by cases hc) (fun w1 _ _ => newK 2 w1 (by decide) (by decide)) (fun j _ => ?_)
  refine o_move rfl rfl ?_
  refine o_extract rfl rfl rfl ?_
  refine o_extract rfl rfl rfl ?_
  refine o_assign rfl rfl ?_
  refine o_assign rfl rfl ?_
  refine triL_nil ?_
  refine thenQ_normal ?_
  refine tri_seq ?_
  refine tri_seq ?_
  refine tri_slots [(2, _), (1, _)] (.cons rfl (.cons rfl (.nil _))) ?_
  refine tri_region ?_
  refine o_move rfl rfl ?_
  refine o_neqI rfl rfl rfl ?_
  refine o_move rfl rfl ?_
  refine' triL_or [_, _] [(1, _)] (dj := 17) (dr := 19) rfl rfl (fun g1 => ?_) ⟨_, rfl, rfl, rfl, (.cons rfl (.nil _))⟩ rfl ?_
  rotate_left
  · skip
    skip
    refine o_move rfl rfl ?_
    refine o_eqlNil Try.underlying24 rfl rfl rfl ?_
    exact triL_nil (Piece.mk rfl rfl (.cons rfl (.nil _)) (fun _ h => h))
  refine o_move rfl rfl ?_
  refine' triL_or [_, _, _] [(1, _)] (dj := 21) (dr := 24) rfl rfl (fun g2 => ?_) ⟨_, rfl, rfl, rfl, (.cons rfl (.nil _))⟩ rfl ?_
  rotate_left
  · skip
    skip
    refine o_move rfl rfl ?_
    refine o_callP (first := []) (cap := []) rfl rfl rfl Try.call20 (fun w1 h1 => sectorsK j.1 (some ⟨j.2, 0, none⟩) 2 none 0 (Dk.new 2) w1 (h1.rd (RdS.box (i := 0) .z))) ?_
    refine o_neqI rfl rfl rfl ?_
    exact triL_nil (Piece.mk rfl rfl (.cons rfl (.nil _)) (fun _ h => h))
  refine triL_nil ?_
  refine thenQ_normal ?_
  refine tri_cond rfl (fun h0 => ?_) (fun h0 => ?_)
  · skip
    exact absurd h0 (by simp [Dk.new])
  · skip
    refine tri_skip ?_
    refine thenQ_normal ?_
    refine tri_seq ?_
    refine tri_region ?_
    refine o_move rfl rfl ?_
    refine o_callF (first := []) (cap := []) (vs := [byteV 1]) id rfl rfl rfl Try.call12 (fun w1 h1 => fullL 1 w1) (fun A27 c27 => ?_)
    refine o_callM [row (.slice A27 512 c27) 5 1 512 (bytesV (ful 1))] (dkC j.1 (some ⟨j.2, 0, none⟩) 2 none 0 (Dk.new 2)) [] (dkF j.1 (some ⟨j.2, 0, none⟩) none) rfl rfl rfl rfl Try.call13 dk_lend dk_lend' (fun w1 h1 h2 => writeK j.1 (some ⟨j.2, 0, none⟩) 2 none 0 (Dk.new 2) 0 A27 512 c27 (ful 1) w1 h2.cx (Dk.new_good 2 (by decide)) (by decide) (Keeps.row (n := 512) (c := c27) (e := 5) (s := 1) h1 (permH [row (.slice A27 512 c27) 5 1 512 (bytesV (ful 1))] (dkC j.1 (some ⟨j.2, 0, none⟩) 2 none 0 (Dk.new 2))) dk_lend' List.mem_cons_self) (ful_len _)) (fun k1 _ => ?_)
    rw [e1]
    dsimp only
    refine o_move rfl rfl ?_
    refine o_callF (first := []) (cap := []) (vs := [byteV 2]) id rfl rfl rfl Try.call12 (fun w1 h1 => fullL 2 w1) (fun A30 c30 => ?_)
    refine o_callM [row (.slice A30 512 c30) 5 1 512 (bytesV (ful 2)), row (.slice A27 512 c27) 5 1 512 (bytesV (ful 1))] (dkC j.1 (some ⟨j.2, 0, none⟩) 2 k1.1 k1.2 d1) [] (dkF j.1 (some ⟨j.2, 0, none⟩) k1.1) rfl rfl rfl rfl Try.call13 dk_lend dk_lend' (fun w1 h1 h2 => writeK j.1 (some ⟨j.2, 0, none⟩) 2 k1.1 k1.2 d1 0 A30 512 c30 (ful 2) w1 h2.cx g1 m1 (Keeps.row (n := 512) (c := c30) (e := 5) (s := 1) h1 (permH [row (.slice A30 512 c30) 5 1 512 (bytesV (ful 2)), row (.slice A27 512 c27) 5 1 512 (bytesV (ful 1))] (dkC j.1 (some ⟨j.2, 0, none⟩) 2 k1.1 k1.2 d1)) dk_lend' List.mem_cons_self) (ful_len _)) (fun k2 _ => ?_)
    rw [e2]
    dsimp only
    refine o_move rfl rfl ?_
    refine o_callF (first := []) (cap := []) (vs := [byteV 3]) id rfl rfl rfl Try.call12 (fun w1 h1 => fullL 3 w1) (fun A33 c33 => ?_)
    refine o_callM [row (.slice A33 512 c33) 5 1 512 (bytesV (ful 3)), row (.slice A30 512 c30) 5 1 512 (bytesV (ful 2)), row (.slice A27 512 c27) 5 1 512 (bytesV (ful 1))] (dkC j.1 (some ⟨j.2, 0, none⟩) 2 k2.1 k2.2 d2) [] (dkF j.1 (some ⟨j.2, 0, none⟩) k2.1) rfl rfl rfl rfl Try.call13 dk_lend dk_lend' (fun w1 h1 h2 => writeK j.1 (some ⟨j.2, 0, none⟩) 2 k2.1 k2.2 d2 1 A33 512 c33 (ful 3) w1 h2.cx g2 m2 (Keeps.row (n := 512) (c := c33) (e := 5) (s := 1) h1 (permH [row (.slice A33 512 c33) 5 1 512 (bytesV (ful 3)), row (.slice A30 512 c30) 5 1 512 (bytesV (ful 2)), row (.slice A27 512 c27) 5 1 512 (bytesV (ful 1))] (dkC j.1 (some ⟨j.2, 0, none⟩) 2 k2.1 k2.2 d2)) dk_lend' List.mem_cons_self) (ful_len _)) (fun k3 _ => ?_)
    rw [e3]
    dsimp only
    refine o_assign rfl rfl ?_
    refine o_assign rfl rfl ?_
    refine o_assign rfl rfl ?_
    refine triL_nil ?_
    refine thenQ_normal ?_
    refine tri_seq ?_
    refine tri_slots [(5, _), (4, _), (3, _), (1, _)] (.cons rfl (.cons rfl (.cons rfl (.cons rfl (.nil _))))) ?_
    refine tri_region ?_
    refine o_move rfl rfl ?_
    refine o_callM [row (.slice A33 512 c33) 5 1 512 (bytesV (ful 3)), row (.slice A30 512 c30) 5 1 512 (bytesV (ful 2)), row (.slice A27 512 c27) 5 1 512 (bytesV (ful 1))] (dkC j.1 (some ⟨j.2, 0, none⟩) 2 k3.1 k3.2 d3) [] (dkF j.1 (some ⟨j.2, 0, none⟩) k3.1) rfl rfl rfl rfl Try.call18 dk_lend dk_lend' (fun w1 h1 h2 => readK j.1 (some ⟨j.2, 0, none⟩) 2 k3.1 k3.2 d3 0 w1 h2.cx g3 m3) (fun u _ => ?_)
    rw [e4]
    dsimp only
    refine o_move rfl rfl ?_
    refine o_extract rfl rfl rfl ?_
    refine o_extract rfl rfl rfl ?_
    refine o_assign rfl rfl ?_
    refine o_assign rfl rfl ?_
    refine triL_nil ?_
    refine thenQ_normal ?_
    refine tri_seq ?_
    refine tri_slots [(7, _), (6, _), (5, _), (4, _), (3, _), (1, _)] (.cons rfl (.cons rfl (.cons rfl (.cons rfl (.cons rfl (.cons rfl (.nil _))))))) ?_
    refine tri_region ?_
    refine o_move rfl rfl ?_
    refine o_callP (first := []) (cap := []) rfl rfl rfl Try.call16 (fun w1 h1 => pendingK j.1 (some ⟨j.2, 0, none⟩) 2 k3.1 k3.2 d4 w1 (h1.rd (RdS.box (i := 4) (.s (.s (.s (.s .z))))))) ?_
    rw [e7]
    refine o_assign rfl rfl ?_
    refine triL_nil ?_
    refine thenQ_normal ?_
    refine tri_seq ?_
    refine tri_region ?_
    refine o_move rfl rfl ?_
    refine o_lit (parts := [_, _, _]) (boolsV [true, false, true]) Try.underlying23 zs4 rfl rfl rfl rfl (by decide) (by decide) (fun b43 => ?_)
    refine o_callM [row (.slice (some ⟨b43, 0, none⟩) 3 3) 4 1 3 (boolsV [true, false, true]), row (.slice A33 512 c33) 5 1 512 (bytesV (ful 3)), row (.slice A30 512 c30) 5 1 512 (bytesV (ful 2)), row (.slice A27 512 c27) 5 1 512 (bytesV (ful 1)), row (.slice u.1 (ful 2).length u.2) 66 1 (ful 2).length (bytesV (ful 2))] (dkC j.1 (some ⟨j.2, 0, none⟩) 2 k3.1 k3.2 d4) [] (dkF j.1 (some ⟨j.2, 0, none⟩) k3.1) rfl rfl rfl rfl Try.call17 dk_lend dk_lend' (fun w1 h1 h2 => cutK j.1 (some ⟨j.2, 0, none⟩) 2 k3.1 k3.2 d4 (some ⟨b43, 0, none⟩) 3 3 [true, false, true] w1 h2.cx g4 m4 (Keeps.row (n := 3) (c := 3) (e := 4) (s := 1) h1 (permH [row (.slice (some ⟨b43, 0, none⟩) 3 3) 4 1 3 (boolsV [true, false, true]), row (.slice A33 512 c33) 5 1 512 (bytesV (ful 3)), row (.slice A30 512 c30) 5 1 512 (bytesV (ful 2)), row (.slice A27 512 c27) 5 1 512 (bytesV (ful 1)), row (.slice u.1 (ful 2).length u.2) 66 1 (ful 2).length (bytesV (ful 2))] (dkC j.1 (some ⟨j.2, 0, none⟩) 2 k3.1 k3.2 d4)) dk_lend' List.mem_cons_self) rfl) (fun _ _ => ?_)
    rw [e5]
    refine triL_nil ?_
    refine thenQ_normal ?_
    refine tri_seq ?_
    refine tri_slots [(8, _), (7, _), (6, _), (5, _), (4, _), (3, _), (1, _)] (.cons rfl (.cons rfl (.cons rfl (.cons rfl (.cons rfl (.cons rfl (.cons rfl (.nil _)))))))) ?_
    refine tri_region ?_
    refine o_move rfl rfl ?_
    refine o_callM [row (.slice (some ⟨b43, 0, none⟩) 3 3) 4 1 3 (boolsV [true, false, true]), row (.slice A33 512 c33) 5 1 512 (bytesV (ful 3)), row (.slice A30 512 c30) 5 1 512 (bytesV (ful 2)), row (.slice A27 512 c27) 5 1 512 (bytesV (ful 1)), row (.slice u.1 (ful 2).length u.2) 66 1 (ful 2).length (bytesV (ful 2))] (dkC j.1 (some ⟨j.2, 0, none⟩) 2 k3.1 k3.2 d5) [] (dkF j.1 (some ⟨j.2, 0, none⟩) k3.1) rfl rfl rfl rfl Try.call18 dk_lend dk_lend' (fun w1 h1 h2 => readK j.1 (some ⟨j.2, 0, none⟩) 2 k3.1 k3.2 d5 0 w1 h2.cx g5 m5) (fun v _ => ?_)
    rw [e6]
    dsimp only
    refine o_move rfl rfl ?_
    refine o_extract rfl rfl rfl ?_
    refine o_extract rfl rfl rfl ?_
    refine o_assign rfl rfl ?_
    refine o_assign rfl rfl ?_
    refine triL_nil ?_
    refine thenQ_normal ?_
    refine tri_seq ?_
    refine tri_slots [(10, _), (9, _), (8, _), (7, _), (6, _), (5, _), (4, _), (3, _), (1, _)] (.cons rfl (.cons rfl (.cons rfl (.cons rfl (.cons rfl (.cons rfl (.cons rfl (.cons rfl (.cons rfl (.nil _)))))))))) ?_
    refine tri_mix (_) [(0, true), (1, true), (2, true), (3, true), (4, true), (5, true), (6, true), (7, true), (8, true), (9, true), (10, true), (11, true), (12, true), (13, true), (14, true), (15, true), (16, true), (17, true), (18, true), (19, true), (20, true), (21, true), (22, true), (23, true), (24, true), (25, false), (26, false), (27, true), (28, true), (29, true), (30, true), (31, true), (32, false), (33, false), (34, false), (35, false), (36, false), (37, false), (38, false), (39, false), (40, false), (41, false)] [34, 35, 36, 37, 38, 39, 40, 41] (by kernel_rfl) (by kernel_rfl) (fun _ h => h) ?_
    refine mix_fix rfl ?_
    refine o_move rfl rfl ?_
    refine triL_nil ⟨rfl, ?_⟩
    refine mix_fix rfl ?_
    refine o_eqlI rfl rfl rfl ?_
    refine triL_nil ⟨rfl, ?_⟩
    refine mix_fix rfl ?_
    refine o_move rfl rfl ?_
    refine triL_nil ⟨rfl, ?_⟩
    refine mix_fix rfl ?_
    refine o_move rfl rfl ?_
    refine triL_nil ⟨rfl, ?_⟩
    refine mix_fix rfl ?_
    refine o_eqlI rfl rfl rfl ?_
    refine triL_nil ⟨rfl, ?_⟩
    refine mix_fix rfl ?_
    refine o_pickT rfl rfl rfl rfl ?_
    refine triL_nil ⟨rfl, ?_⟩
    refine mix_fix rfl ?_
    refine o_move rfl rfl ?_
    refine triL_nil ⟨rfl, ?_⟩
    refine mix_fix rfl ?_
    refine o_move rfl rfl ?_
    refine triL_nil ⟨rfl, ?_⟩
    refine mix_fix rfl ?_
    refine o_eqlI rfl rfl rfl ?_
    refine triL_nil ⟨rfl, ?_⟩
    refine mix_fix rfl ?_
    refine o_pickT rfl rfl rfl rfl ?_
    refine triL_nil ⟨rfl, ?_⟩
    refine mix_fix rfl ?_
    refine o_move rfl rfl ?_
    refine triL_nil ⟨rfl, ?_⟩
    refine mix_fix rfl ?_
    refine o_move rfl rfl ?_
    refine triL_nil ⟨rfl, ?_⟩
    refine mix_fix rfl ?_
    refine o_eqlI rfl rfl rfl ?_
    refine triL_nil ⟨rfl, ?_⟩
    refine mix_fix rfl ?_
    refine o_pickT rfl rfl rfl rfl ?_
    refine triL_nil ⟨rfl, ?_⟩
    refine mix_fix rfl ?_
    refine o_move rfl rfl ?_
    refine triL_nil ⟨rfl, ?_⟩
    refine mix_fix rfl ?_
    refine o_move rfl rfl ?_
    refine triL_nil ⟨rfl, ?_⟩
    refine mix_fix rfl ?_
    refine o_eqlI rfl rfl rfl ?_
    refine triL_nil ⟨rfl, ?_⟩
    refine mix_fix rfl ?_
    refine o_pickT rfl rfl rfl rfl ?_
    refine triL_nil ⟨rfl, ?_⟩
    refine mix_fix rfl ?_
    refine o_move rfl rfl ?_
    refine triL_nil ⟨rfl, ?_⟩
    refine mix_fix rfl ?_
    refine o_move rfl rfl ?_
    refine triL_nil ⟨rfl, ?_⟩
    refine mix_fix rfl ?_
    refine o_eqlI rfl rfl rfl ?_
    refine triL_nil ⟨rfl, ?_⟩
    refine mix_fix rfl ?_
    refine o_pickT rfl rfl rfl rfl ?_
    refine triL_nil ⟨rfl, ?_⟩
    refine mix_fix rfl ?_
    refine o_move rfl rfl ?_
    refine triL_nil ⟨rfl, ?_⟩
    refine mix_fix rfl ?_
    refine o_move rfl rfl ?_
    refine triL_nil ⟨rfl, ?_⟩
    refine mix_fix rfl ?_
    refine o_toText (l := ful 2) Try.underlying32 Try.underlying5 Try.underlying9 rfl rfl (RdS.row (i := 4) (.s (.s (.s (.s .z))))) rfl ?_
    refine triL_nil ⟨rfl, ?_⟩
    refine mix_op rfl ?_
    refine o_callF (first := []) (cap := []) (vs := [byteV 2]) id rfl rfl rfl Try.call12 (fun w1 h1 => fullL 2 w1) (fun A75 c75 => ?_)
    refine triL_nil ⟨rfl, fun _ _ h => Sat.dropS 1 h, ?_⟩
    refine mix_op rfl ?_
    refine o_toText (l := ful 2) Try.underlying32 Try.underlying5 Try.underlying9 rfl rfl (RdS.row (i := 0) .z) (ful_len 2).symm ?_
    refine triL_nil ⟨rfl, fun _ _ h => Sat.dropS 1 h, ?_⟩
    refine mix_fix rfl ?_
    refine o_eqlSame rfl rfl rfl rfl ?_
    refine triL_nil ⟨rfl, ?_⟩
    refine mix_fix rfl ?_
    refine o_pickT rfl rfl rfl rfl ?_
    refine triL_nil ⟨rfl, ?_⟩
    refine mix_fix rfl ?_
    refine o_move rfl rfl ?_
    refine triL_nil ⟨rfl, ?_⟩
    refine mix_fix rfl ?_
    refine o_move rfl rfl ?_
    refine triL_nil ⟨rfl, ?_⟩
    refine mix_fix rfl ?_
    refine o_toText (l := ful 1) Try.underlying32 Try.underlying5 Try.underlying9 rfl rfl (RdS.row (i := 5) (.s (.s (.s (.s (.s .z)))))) rfl ?_
    refine triL_nil ⟨rfl, ?_⟩
    refine mix_op rfl ?_
    refine o_callF (first := []) (cap := []) (vs := [byteV 1]) id rfl rfl rfl Try.call12 (fun w1 h1 => fullL 1 w1) (fun A82 c82 => ?_)
    refine triL_nil ⟨rfl, fun _ _ h => Sat.dropS 2 h, ?_⟩
    refine mix_op rfl ?_
    refine o_toText (l := ful 1) Try.underlying32 Try.underlying5 Try.underlying9 rfl rfl (RdS.row (i := 0) .z) (ful_len 1).symm ?_
    refine triL_nil ⟨rfl, fun _ _ h => Sat.dropS 2 h, ?_⟩
    refine mix_rest [34, 35, 36, 37, 38, 39, 40, 41] [_, _, _, _, _, _, _, _] rfl rfl ?_
    refine o_eqlSame rfl rfl rfl rfl ?_
    refine o_pickT rfl rfl rfl rfl ?_
    refine o_move rfl rfl ?_
    refine o_move rfl rfl ?_
    refine o_callP (first := []) (cap := []) rfl rfl rfl Try.call16 (fun w1 h1 => pendingK j.1 (some ⟨j.2, 0, none⟩) 2 k3.1 k3.2 d6 w1 (h1.rd (RdS.box (i := 8) (.s (.s (.s (.s (.s (.s (.s (.s .z))))))))))) ?_
    rw [e8]
    refine o_eqlI rfl rfl rfl ?_
    refine o_pickT rfl rfl rfl rfl ?_
    refine o_assign rfl rfl ?_
    refine triL_nil ⟨rfl, ?_⟩
    refine thenQ_normal ?_
    refine tri_ret ?_
    refine end1 rfl rfl ?_
    exact fun w1 hw1 => ⟨rfl, hw1.chg⟩

end Go.Proofs.Ytpnccaddbjbfhaa
