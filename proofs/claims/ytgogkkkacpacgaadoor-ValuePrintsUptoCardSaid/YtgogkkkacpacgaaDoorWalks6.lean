/- the document's functions, walked: digits -/
import Derived.Test.YtgogkkkacpacgaaDoorWalks5
import Derived.Test.YtgogkkkacpacgaaDoorValue5
namespace Go.Proofs.YtgogkkkacpacgaaDoor
open Go.WK Go.RowKit 

theorem zs5 : (Tryd.prog.info? 5).map (fun i => (i.zero, i.size)) = some (some (.int .u8 0), 1) := by kernel_rfl
theorem zsb5 : (Tryd.prog.info? 5).map (fun i => (i.zero, i.size, i.bytes)) = some (some (.int .u8 0), 1, 1) := by kernel_rfl
theorem sz5 : szB Tryd.prog 5 = some 1 := by kernel_rfl
theorem agg5 : aggB Tryd.prog 5 = some false := by kernel_rfl

theorem rd_none {cx : Cx} {H : List Chunk} : RdS cx H none [] := RdS.nil

theorem digitsR (n : Int) (w : World) (h : inR n = true) : Calls Tryd.prog 71 #[.int .i64 n] w (Pure w (.string (B (Lib.itoa n)))) := by
  refine calls_tri (args := [.int .i64 n]) (lent := []) (H := []) Tryd.func71 rfl Tryd.ntmps71 rfl (Sat.start _ _ _ _) ?_
  refine (show Tri _ [(0, _)] _ _ _ from ?_)
  obtain ⟨n1, n2⟩ := inR_iff.1 h
  have hu : n.natAbs ≤ 9223372036854775808 := by omega
  refine tri_seq ?_
  refine tri_region ?_
  refine o_assign rfl rfl ?_
  refine triL_nil ?_
  refine thenQ_normal ?_
  refine tri_seq ?_
  refine tri_region ?_
  refine o_assign rfl rfl ?_
  refine triL_nil ?_
  refine thenQ_normal ?_
  refine tri_seq ?_
  refine tri_seq ?_
  refine tri_region ?_
  refine o_move rfl rfl ?_
  refine o_callP (first := []) (cap := []) rfl rfl rfl Tryd.call78 (fun w1 h1 => sizeR n w1 h) ?_
  refine o_assign rfl rfl ?_
  refine triL_nil ?_
  refine thenQ_normal ?_
  refine tri_block ?_
  refine tri_loop (ι := Nat × List UInt8 × Option Addr × Nat) (F := fun j => [(0, .int .i64 n), (3, .slice j.2.2.1 j.2.1.length j.2.2.2), (4, .int .u64 ((j.1 : Nat) : Int))]) (HH := fun j => [row (.slice j.2.2.1 j.2.1.length j.2.2.2) 5 1 j.2.1.length (bytesV j.2.1)]) (Pu := fun j => digInv n.natAbs j.1 j.2.1) (μ := fun j => 2 * j.1 + (if j.2.1.length = 0 then 1 else 0)) ((n.natAbs, [], none, 0)) (.cons rfl (.cons rfl (.cons rfl (.nil _)))) (fun _ h => h.nilRow _ _) (⟨Nat.le_refl _, .inl ⟨rfl, rfl⟩⟩) (fun j hi => ?_)
  have hl := digInv_len hi hu
  have hk := hi.1
  refine tri_seq ?_
  refine tri_seq ?_
  refine tri_region ?_
  refine o_move rfl rfl ?_
  refine o_gtr rfl rfl rfl ?_
  refine o_move rfl rfl ?_
  refine' triL_or [_, _, _] [(0, _), (3, _), (4, _)] (dj := 11) (dr := 14) rfl rfl (fun g1 => ?_) ⟨_, rfl, rfl, rfl, (.cons rfl (.cons rfl (.cons rfl (.nil _))))⟩ rfl ?_
  rotate_left
  · skip
    refine o_move rfl rfl ?_
    refine o_lenS Tryd.underlying59 rfl rfl ?_
    refine o_eqlI rfl rfl rfl ?_
    exact triL_nil (Piece.mk rfl rfl (.cons rfl (.cons rfl (.cons rfl (.nil _)))) (fun _ h => h))
  refine triL_nil ?_
  refine thenQ_normal ?_
  refine tri_cond rfl (fun h1 => ?_) (fun h1 => ?_)
  · skip
    have h1 : 0 < j.1 ∨ j.2.1.length = 0 := by simp only [Bool.or_eq_true, decide_eq_true_eq] at h1; omega
    refine tri_skip ?_
    refine thenQ_normal ?_
    refine tri_seq ?_
    refine tri_block ?_
    refine tri_region ?_
    refine o_move rfl rfl ?_
    refine o_move rfl rfl ?_
    refine o_remU j.1 10 rfl rfl rfl (by decide) ?_
    refine o_add rfl rfl rfl ?_
    refine triL_num (v' := .int .u64 ((48 + j.1 % 10 : Nat) : Int)) (congrArg (Value.int .u64) (by rw [IntKind.wrap_u64]; omega)) ?_
    refine o_toByte rfl rfl Tryd.underlying67 Tryd.underlying5 (Int.natCast_nonneg _) ?_
    refine o_lit1 Tryd.underlying59 zs5 rfl rfl rfl rfl rfl (by decide) (by decide) (fun b23 => ?_)
    refine o_append Tryd.underlying59 zsb5 rfl (by decide) (by repeat (first | exact Nth.z | apply Nth.s)) rfl rfl rfl (news := bytesV [UInt8.ofNat (48 + j.1 % 10)]) (RdS.row .z) rfl (bytesV_one _) (by unfold maxLen; omega) (by omega) (fun A24 c24 => ?_)
    refine o_assign rfl rfl ?_
    refine triL_nil ?_
    refine blockQ_normal ?_
    refine thenQ_normal ?_
    refine tri_slots [(3, _), (0, _), (4, _)] (.cons rfl (.cons rfl (.cons rfl (.nil _)))) ?_
    refine tri_region ?_
    refine o_move rfl rfl ?_
    refine o_quoU j.1 10 rfl rfl rfl (by omega) (by decide) ?_
    refine o_assign rfl rfl ?_
    refine triL_nil ?_
    refine thenQ_normal ?_
    have hnew := digInv_step hi h1
    have hlen : (j.2.1 ++ [UInt8.ofNat (48 + j.1 % 10)]).length = j.2.1.length + 1 := by simp
    exact ⟨(j.1 / 10, j.2.1 ++ [UInt8.ofNat (48 + j.1 % 10)], A24, c24), (.cons rfl (.cons (congrArg (fun k : Nat => some (Value.slice A24 k c24)) hlen.symm) (.cons rfl (.nil _)))), (fun w1 hw1 => by simp only [hlen, bytesV_append]; exact hw1.tail), hnew, (by simp only [hlen]; split <;> split <;> omega)⟩
  · skip
    have h1 : ¬ 0 < j.1 ∧ ¬ j.2.1.length = 0 := by simp only [Bool.or_eq_false_iff, decide_eq_false_iff_not] at h1; omega
    have hd := digInv_end hi h1.1 h1.2
    refine tri_exit ?_
    refine thenQ_exit ?_
    refine thenQ_exit ?_
    refine blockQ_here ?_
    refine thenQ_normal ?_
    refine tri_join (ι := List UInt8 × Option Addr × Nat) (fun q => [(3, .slice q.2.1 q.1.length q.2.2)]) (fun q => [row (.slice q.2.1 q.1.length q.2.2) 5 1 q.1.length (bytesV q.1)]) (fun q => q.1.length ≤ 20 ∧ q.1.reverse = Lib.itoa n) ?_ (fun q hj => ?_)
    · skip
      refine tri_seq ?_
      refine tri_region ?_
      refine o_move rfl rfl ?_
      refine o_lss rfl rfl rfl ?_
      refine triL_nil ?_
      refine thenQ_normal ?_
      refine tri_if rfl (fun h2 => ?_) (fun h2 => ?_)
      · skip
        refine tri_slots [(3, _)] (.cons rfl (.nil _)) ?_
        refine tri_region ?_
        refine o_move rfl rfl ?_
        refine o_lit1 Tryd.underlying59 zs5 rfl rfl rfl rfl rfl (by decide) (by decide) (fun b28 => ?_)
        refine o_append Tryd.underlying59 zsb5 rfl (by decide) (by repeat (first | exact Nth.z | apply Nth.s)) rfl rfl rfl (news := bytesV [45]) (RdS.row .z) rfl (bytesV_one _) (by unfold maxLen; omega) (by omega) (fun A29 c29 => ?_)
        refine o_assign rfl rfl ?_
        refine triL_nil ?_
        refine thenQ_normal ?_
        have hlen : (j.2.1 ++ [(45 : UInt8)]).length = j.2.1.length + 1 := by simp
        exact ⟨(j.2.1 ++ [45], A29, c29), (.cons (congrArg (fun k : Nat => some (Value.slice A29 k c29)) hlen.symm) (.nil _)), (fun w1 hw1 => by simp only [hlen, bytesV_append]; exact hw1.tail), ⟨by simp only [hlen]; omega, by rw [itoa_neg h2, hd]; simp⟩⟩
      · skip
        refine tri_skip ?_
        refine thenQ_normal ?_
        exact ⟨(j.2.1, j.2.2.1, j.2.2.2), (.cons rfl (.nil _)), fun _ h => h, ⟨by simp only; omega, by rw [itoa_pos h2, show n.toNat = n.natAbs by omega, hd]⟩⟩
    refine tri_seq ?_
    refine tri_region ?_
    refine o_assign rfl rfl ?_
    refine triL_nil ?_
    refine thenQ_normal ?_
    refine tri_seq ?_
    refine tri_seq ?_
    refine tri_region ?_
    refine o_move rfl rfl ?_
    refine o_lenS Tryd.underlying59 rfl rfl ?_
    refine o_subN rfl rfl rfl (by omega) ?_
    refine o_assign rfl rfl ?_
    refine triL_nil ?_
    refine thenQ_normal ?_
    refine tri_block ?_
    refine tri_loop (ι := Nat × Option Addr × Nat) (F := fun i => [(3, .slice q.2.1 q.1.length q.2.2), (5, .slice i.2.1 i.1 i.2.2), (6, .int .i64 ((q.1.length : Int) - 1 - (i.1 : Int)))]) (HH := fun i => [row (.slice i.2.1 i.1 i.2.2) 5 1 i.1 (bytesV (q.1.reverse.take i.1)), row (.slice q.2.1 q.1.length q.2.2) 5 1 q.1.length (bytesV q.1)]) (Pu := fun i => i.1 ≤ q.1.length) (μ := fun i => q.1.length - i.1) ((0, none, 0)) (.cons rfl (.cons rfl (.cons (congrArg (fun k : Int => some (Value.int .i64 k)) (by simp only; omega)) (.nil _)))) (fun _ h => h.nilRow _ _) (Nat.zero_le _) (fun i hi => ?_)
    refine tri_seq ?_
    refine tri_seq ?_
    refine tri_region ?_
    refine o_move rfl rfl ?_
    refine o_geq rfl rfl rfl ?_
    refine triL_nil ?_
    refine thenQ_normal ?_
    refine tri_if rfl (fun h3 => ?_) (fun h3 => ?_)
    · skip
      refine tri_skip ?_
      refine thenQ_normal ?_
      refine tri_seq ?_
      refine tri_block ?_
      refine tri_region ?_
      refine o_move rfl rfl ?_
      refine o_move rfl rfl ?_
      refine o_move rfl rfl ?_
      refine o_idxS Tryd.underlying59 sz5 rfl rfl rfl (RdS.row (.s .z)) (by omega) (by omega) (by rw [bytesV_length]; omega) (by decide) ?_
      refine o_loadR agg5 rfl rfl (RdS.row (.s .z)) (rd_byte _ (q.1.length - 1 - i.1) (by omega) (by omega)) ?_
      refine o_lit1 Tryd.underlying59 zs5 rfl rfl rfl rfl rfl (by decide) (by decide) (fun b42 => ?_)
      refine o_append Tryd.underlying59 zsb5 rfl (by decide) (by repeat (first | exact Nth.z | apply Nth.s)) rfl rfl rfl (news := bytesV [q.1.getD (q.1.length - 1 - i.1) 0]) (RdS.row .z) rfl (bytesV_one _) (by unfold maxLen; omega) (by omega) (fun A43 c43 => ?_)
      refine o_assign rfl rfl ?_
      refine triL_nil ?_
      refine blockQ_normal ?_
      refine thenQ_normal ?_
      refine tri_slots [(5, _), (3, _), (6, _)] (.cons rfl (.cons rfl (.cons rfl (.nil _)))) ?_
      refine tri_region ?_
      refine o_move rfl rfl ?_
      refine o_subN rfl rfl rfl (by omega) ?_
      refine o_assign rfl rfl ?_
      refine triL_nil ?_
      refine thenQ_normal ?_
      exact ⟨(i.1 + 1, A43, c43), (.cons rfl (.cons rfl (.cons (congrArg (fun k : Int => some (Value.int .i64 k)) (by simp only; omega)) (.nil _)))), (fun w1 hw1 => by simp only [rev_snoc q.1 i.1 (by omega), bytesV_append]; exact hw1.tail), by simp only; omega, (by simp only; omega)⟩
    · skip
      refine tri_exit ?_
      refine thenQ_exit ?_
      refine thenQ_exit ?_
      refine blockQ_here ?_
      refine thenQ_normal ?_
      refine tri_seq ?_
      refine tri_slots [(5, _)] (.cons rfl (.nil _)) ?_
      refine tri_region ?_
      refine o_move rfl rfl ?_
      refine o_toText Tryd.underlying59 Tryd.underlying5 Tryd.underlying9 rfl rfl (RdS.row .z) (by rw [List.length_take, List.length_reverse]; omega) ?_
      refine o_assign rfl rfl ?_
      refine triL_nil ?_
      refine thenQ_normal ?_
      refine tri_ret ?_
      refine end1 rfl rfl ?_
      have hz : i.1 = q.1.length := by omega
      exact fun w1 hw1 => ⟨congrArg (fun b : List UInt8 => Ending.returned (.string (B b))) (by rw [hz, List.take_of_length_le (by simp)]; exact hj.2), hw1.chg⟩

theorem numF_minus {s : List UInt8} (h : 0 < s.length ∧ s.getD 0 0 = 45) : numF s = magF (s.drop 1) true := by
  cases s with
  | nil => simp at h
  | cons c r =>
    have hc : c = 45 := by simpa using h.2
    simp only [numF, if_pos hc]
    rfl
theorem numF_plain {s : List UInt8} (h : ¬ (0 < s.length ∧ s.getD 0 0 = 45)) : numF s = magF s false := by
  cases s with
  | nil => rfl
  | cons c r =>
    have hc : c ≠ 45 := fun e => h ⟨by simp, by simpa using e⟩
    simp only [numF, if_neg hc]
theorem natlt0 (n : Nat) : decide ((0 : Int) < (n : Int)) = decide (0 < n) := decide_eq_decide.2 (by omega)

theorem numberR (s : List UInt8) (w : World) (hs : s.length ≤ 140737488355328) : Calls Tryd.prog 73 #[.string (B s)] w (Pure w (resF (numF s))) := by
  refine calls_tri (args := [.string (B s)]) (lent := []) (H := []) Tryd.func73 rfl Tryd.ntmps73 rfl (Sat.start _ _ _ _) ?_
  refine (show Tri _ [(0, _)] _ _ _ from ?_)
  refine tri_seq ?_
  refine tri_region ?_
  refine o_assign rfl rfl ?_
  refine o_assign rfl rfl ?_
  refine triL_nil ?_
  refine thenQ_normal ?_
  refine tri_seq ?_
  refine tri_region ?_
  refine o_move rfl rfl ?_
  refine o_lenB Tryd.underlying9 rfl rfl ?_
  refine o_gtr rfl rfl rfl ?_
  refine o_move rfl rfl ?_
  refine' triL_and [_, _, _] [(0, _)] (dj := 11) (dr := 14) rfl rfl (fun g1 => ?_) ⟨_, rfl, rfl, rfl, (.cons rfl (.nil _))⟩ rfl ?_
  rotate_left
  · skip
    have g1 := of_decide_eq_true g1
    refine o_move rfl rfl ?_
    refine o_idxB Tryd.underlying9 rfl rfl rfl (by omega) (by omega) ?_
    refine o_eqlU8 _ 45 rfl rfl rfl ?_
    exact triL_nil (Piece.mk rfl rfl (.cons rfl (.nil _)) (fun _ h => h))
  refine o_assign rfl rfl ?_
  refine triL_nil ?_
  refine thenQ_normal ?_
  refine tri_seq ?_
  refine tri_region ?_
  refine o_move rfl rfl ?_
  refine o_assign rfl rfl ?_
  refine triL_nil ?_
  refine thenQ_normal ?_
  refine tri_join (ι := List UInt8 × Bool) (fun j => [(4, .bool j.2), (5, .string (B j.1))]) (fun j => []) (fun j => numF s = magF j.1 j.2 ∧ j.1.length ≤ 140737488355328) ?_ (fun j hj => ?_)
  · skip
    refine tri_seq ?_
    refine tri_region ?_
    refine o_move rfl rfl ?_
    refine triL_nil ?_
    refine thenQ_normal ?_
    refine tri_cond rfl (fun h0 => ?_) (fun h0 => ?_)
    · skip
      have h0 : 0 < s.length ∧ s.getD 0 0 = 45 := by simp only [Bool.and_eq_true, decide_eq_true_eq] at h0; exact ⟨by omega, h0.2⟩
      refine tri_slots [(4, _), (0, _)] (.cons rfl (.cons rfl (.nil _))) ?_
      refine tri_region ?_
      refine o_move rfl rfl ?_
      refine o_sliceBl Tryd.underlying9 rfl rfl rfl (by omega) (by omega) ?_
      refine o_assign rfl rfl ?_
      refine triL_nil ?_
      refine thenQ_normal ?_
      exact ⟨(s.drop 1, true), (.cons (congrArg (fun b : Bool => some (Value.bool b)) (by rw [Bool.and_eq_true, decide_eq_true_eq, decide_eq_true_eq]; exact ⟨by omega, h0.2⟩)) (.cons rfl (.nil _))), fun _ h => h, ⟨numF_minus h0, by simp only [List.length_drop]; omega⟩⟩
    · skip
      simp only [Bool.and_eq_false_iff, decide_eq_false_iff_not] at h0
      have h0 : ¬ (0 < s.length ∧ s.getD 0 0 = 45) := fun e => h0.elim (fun a => a (by omega)) (fun b => b e.2)
      refine tri_skip ?_
      refine thenQ_normal ?_
      exact ⟨(s, false), (.cons (congrArg (fun b : Bool => some (Value.bool b)) (Bool.eq_false_iff.2 (fun e => h0 (by simp only [Bool.and_eq_true, decide_eq_true_eq] at e; exact ⟨by omega, e.2⟩)))) (.cons rfl (.nil _))), fun _ h => h, ⟨numF_plain h0, hs⟩⟩
  refine tri_seq ?_
  refine tri_seq ?_
  refine tri_region ?_
  refine o_move rfl rfl ?_
  refine o_eqlT rfl rfl rfl ?_
  refine o_move rfl rfl ?_
  refine' triL_or [_, _, _] [(4, _), (5, _)] (dj := 22) (dr := 25) rfl rfl (fun g2 => ?_) ⟨_, rfl, rfl, rfl, (.cons rfl (.cons rfl (.nil _)))⟩ rfl ?_
  rotate_left
  · skip
    refine o_move rfl rfl ?_
    refine o_lenB Tryd.underlying9 rfl rfl ?_
    refine o_gtr rfl rfl rfl ?_
    exact triL_nil (Piece.mk rfl rfl (.cons rfl (.cons rfl (.nil _))) (fun _ h => h))
  refine o_move rfl rfl ?_
  refine' triL_or [_, _, _, _, _, _, _, _, _, _, _] [(4, _), (5, _)] (dj := 27) (dr := 38) rfl rfl (fun gA => ?_) ⟨_, rfl, rfl, rfl, (.cons rfl (.cons rfl (.nil _)))⟩ rfl ?_
  rotate_left
  · skip
    simp only [Bool.or_eq_false_iff, decide_eq_false_iff_not] at gA
    have gB : 0 < j.1.length := List.length_pos_iff.2 gA.1
    refine o_move rfl rfl ?_
    refine o_idxB Tryd.underlying9 rfl rfl rfl (by omega) (by omega) ?_
    refine o_eqlU8 _ 48 rfl rfl rfl ?_
    refine o_move rfl rfl ?_
    refine' triL_and [_, _, _, _, _, _] [(27, _), (4, _), (5, _)] (dj := 31) (dr := 37) rfl rfl (fun g3 => ?_) ⟨_, rfl, rfl, rfl, (.cons rfl (.cons rfl (.cons rfl (.nil _))))⟩ rfl ?_
    rotate_left
    · skip
      refine o_move rfl rfl ?_
      refine o_lenB Tryd.underlying9 rfl rfl ?_
      refine o_gtr rfl rfl rfl ?_
      refine o_move rfl rfl ?_
      refine' triL_or [_] [(31, _), (27, _), (4, _), (5, _)] (dj := 35) (dr := 36) rfl rfl (fun g4 => ?_) ⟨_, rfl, rfl, rfl, (.cons rfl (.cons rfl (.cons rfl (.cons rfl (.nil _)))))⟩ rfl ?_
      rotate_left
      · skip
        refine o_move rfl rfl ?_
        exact triL_nil (Piece.mk rfl rfl (.cons rfl (.cons rfl (.cons rfl (.cons rfl (.nil _))))) (fun _ h => h))
      exact triL_nil (Piece.mk rfl rfl (.cons rfl (.cons rfl (.cons rfl (.nil _)))) (fun _ h => h))
    exact triL_nil (Piece.mk rfl rfl (.cons rfl (.cons rfl (.nil _))) (fun _ h => h))
  refine triL_nil ?_
  refine thenQ_normal ?_
  refine tri_cond rfl (fun h1 => ?_) (fun h1 => ?_)
  · skip
    have h1 : j.1 = [] ∨ 19 < j.1.length ∨ (j.1.getD 0 0 = 48 ∧ (1 < j.1.length ∨ j.2 = true)) := by simp only [Bool.or_eq_true, Bool.and_eq_true, decide_eq_true_eq] at h1; rcases h1 with (h | h) | ⟨h, h' | h'⟩; exact .inl h; exact .inr (.inl (by omega)); exact .inr (.inr ⟨h, .inl (by omega)⟩); exact .inr (.inr ⟨h, .inr h'⟩)
    refine tri_seq ?_
    refine tri_region ?_
    refine o_assign rfl rfl ?_
    refine o_assign rfl rfl ?_
    refine triL_nil ?_
    refine thenQ_normal ?_
    refine tri_ret ?_
    refine thenQ_ret ?_
    refine end2 rfl rfl rfl ?_
    exact fun w1 hw1 => ⟨by have e : numF s = (0, false) := (by rw [hj.1, magF, if_pos h1]); rw [e] <;> rfl, hw1.chg⟩
  · skip
    have h1 : ¬ (j.1 = [] ∨ 19 < j.1.length ∨ (j.1.getD 0 0 = 48 ∧ (1 < j.1.length ∨ j.2 = true))) := fun e => Bool.eq_false_iff.1 h1 (by simp only [Bool.or_eq_true, Bool.and_eq_true, decide_eq_true_eq]; rcases e with h | h | ⟨h, h' | h'⟩; exact .inl (.inl h); exact .inl (.inr (by omega)); exact .inr ⟨h, .inl (by omega)⟩; exact .inr ⟨h, .inr h'⟩)
    have hl19 : j.1.length ≤ 19 := by rcases Nat.lt_or_ge 19 j.1.length with h | h; exact absurd (.inr (.inl h)) h1; exact h
    refine tri_skip ?_
    refine thenQ_normal ?_
    refine tri_seq ?_
    refine tri_region ?_
    refine o_assign rfl rfl ?_
    refine triL_nil ?_
    refine thenQ_normal ?_
    refine tri_seq ?_
    refine tri_seq ?_
    refine tri_region ?_
    refine o_assign rfl rfl ?_
    refine triL_nil ?_
    refine thenQ_normal ?_
    refine tri_block ?_
    refine tri_loop (ι := Nat × Nat) (F := fun i => [(4, .bool j.2), (5, .string (B j.1)), (6, .int .u64 ((i.2 : Nat) : Int)), (7, .int .i64 ((i.1 : Nat) : Int))]) (HH := fun i => []) (Pu := fun i => i.1 ≤ j.1.length ∧ Lib.decFrom 0 (j.1.take i.1) = some i.2) (μ := fun i => j.1.length - i.1) ((0, 0)) (.cons rfl (.cons rfl (.cons rfl (.cons rfl (.nil _))))) (fun _ h => h) (⟨Nat.zero_le _, rfl⟩) (fun i hi => ?_)
    have hu19 := dec_lt19 (show i.1 ≤ 19 by omega) hi.2
    refine tri_seq ?_
    refine tri_seq ?_
    refine tri_region ?_
    refine o_move rfl rfl ?_
    refine o_move rfl rfl ?_
    refine o_lenB Tryd.underlying9 rfl rfl ?_
    refine o_lss rfl rfl rfl ?_
    refine triL_nil ?_
    refine thenQ_normal ?_
    refine tri_if rfl (fun h2 => ?_) (fun h2 => ?_)
    · skip
      refine tri_skip ?_
      refine thenQ_normal ?_
      refine tri_seq ?_
      refine tri_block ?_
      refine tri_seq ?_
      refine tri_seq ?_
      refine tri_slots [(4, _), (5, _), (6, _), (7, _)] (.cons rfl (.cons rfl (.cons rfl (.cons rfl (.nil _))))) ?_
      refine tri_region ?_
      refine o_move rfl rfl ?_
      refine o_move rfl rfl ?_
      refine o_idxB Tryd.underlying9 rfl rfl rfl (by omega) (by omega) ?_
      refine o_lss rfl rfl rfl ?_
      refine o_move rfl rfl ?_
      refine' triL_or [_, _, _, _] [(4, _), (5, _), (6, _), (7, _)] (dj := 50) (dr := 54) rfl rfl (fun g5 => ?_) ⟨_, rfl, rfl, rfl, (.cons rfl (.cons rfl (.cons rfl (.cons rfl (.nil _)))))⟩ rfl ?_
      rotate_left
      · skip
        refine o_move rfl rfl ?_
        refine o_move rfl rfl ?_
        refine o_idxB Tryd.underlying9 rfl rfl rfl (by omega) (by omega) ?_
        refine o_gtr rfl rfl rfl ?_
        exact triL_nil (Piece.mk rfl rfl (.cons rfl (.cons rfl (.cons rfl (.cons rfl (.nil _))))) (fun _ h => h))
      refine triL_nil ?_
      refine thenQ_normal ?_
      refine tri_cond rfl (fun h3 => ?_) (fun h3 => ?_)
      · skip
        simp only [Bool.or_eq_true, decide_eq_true_eq] at h3
        refine tri_seq ?_
        refine tri_slots [] (.nil _) ?_
        refine tri_region ?_
        refine o_assign rfl rfl ?_
        refine o_assign rfl rfl ?_
        refine triL_nil ?_
        refine thenQ_normal ?_
        refine tri_ret ?_
        refine thenQ_ret ?_
        refine blockQ_ret ?_
        refine thenQ_ret ?_
        refine thenQ_ret ?_
        refine blockQ_ret ?_
        refine thenQ_ret ?_
        refine end2 rfl rfl rfl ?_
        exact fun w1 hw1 => ⟨by have e : numF s = (0, false) := (by rw [hj.1, magF, if_neg h1, decFrom_bad (by omega) (notDigit h3)]); rw [e] <;> rfl, hw1.chg⟩
      · skip
        simp only [Bool.or_eq_false_iff, decide_eq_false_iff_not] at h3
        have h3 : ¬ ((j.1.getD i.1 0).toNat : Int) < 48 ∧ ¬ 57 < ((j.1.getD i.1 0).toNat : Int) := h3
        have hu18 := dec_lt18 (show i.1 ≤ 18 by omega) hi.2
        have hn := dec_next (by omega) hi.2 h3
        refine tri_skip ?_
        refine thenQ_normal ?_
        refine tri_region ?_
        refine o_move rfl rfl ?_
        refine o_mul rfl rfl rfl ?_
        refine o_move rfl rfl ?_
        refine o_move rfl rfl ?_
        refine o_idxB Tryd.underlying9 rfl rfl rfl (by omega) (by omega) ?_
        refine o_sub rfl rfl rfl ?_
        refine o_conv rfl rfl Tryd.underlying5 Tryd.underlying67 ?_
        refine o_add rfl rfl rfl ?_
        refine o_assign rfl rfl ?_
        refine triL_nil ?_
        refine blockQ_normal ?_
        refine thenQ_normal ?_
        refine tri_slots [(6, _), (4, _), (5, _), (7, _)] (.cons rfl (.cons rfl (.cons rfl (.cons rfl (.nil _))))) ?_
        refine tri_region ?_
        refine o_move rfl rfl ?_
        refine o_addN rfl rfl rfl (by omega) ?_
        refine o_assign rfl rfl ?_
        refine triL_nil ?_
        refine thenQ_normal ?_
        exact ⟨(i.1 + 1, i.2 * 10 + ((j.1.getD i.1 0).toNat - 48)), (.cons rfl (.cons rfl (.cons (congrArg (fun k : Int => some (Value.int .u64 k)) (by simp only [Int.toNat_natCast]; rw [IntKind.wrap_u64, IntKind.wrap_u64, IntKind.wrap_u64, IntKind.wrap_u8']; omega)) (.cons rfl (.nil _))))), fun _ h => h, ⟨by simp only; omega, hn⟩, (by simp only; omega)⟩
    · skip
      refine tri_exit ?_
      refine thenQ_exit ?_
      refine thenQ_exit ?_
      refine blockQ_here ?_
      refine thenQ_normal ?_
      refine tri_seq ?_
      refine tri_slots [(4, _), (6, _)] (.cons rfl (.cons rfl (.nil _))) ?_
      refine tri_region ?_
      refine o_move rfl rfl ?_
      refine o_move rfl rfl ?_
      refine o_callP (first := []) (cap := []) rfl rfl rfl Tryd.call81 (fun w1 h1 => signedR i.2 j.2 w1 (Nat.lt_trans (dec_lt19 (by omega) hi.2) (by decide))) ?_
      refine o_extract rfl rfl rfl ?_
      refine o_extract rfl rfl rfl ?_
      refine o_assign rfl rfl ?_
      refine o_assign rfl rfl ?_
      refine triL_nil ?_
      refine thenQ_normal ?_
      refine tri_ret ?_
      refine end2 rfl rfl rfl ?_
      exact fun w1 hw1 => ⟨by have e : numF s = sgF i.2 j.2 := (by have hz : j.1.take i.1 = j.1 := List.take_of_length_le (by omega); rw [hj.1, magF, if_neg h1, ← hz, hi.2]); rw [e] <;> rfl, hw1.chg⟩

end Go.Proofs.YtgogkkkacpacgaaDoor
