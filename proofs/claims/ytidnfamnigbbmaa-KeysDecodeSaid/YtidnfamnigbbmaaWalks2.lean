/- the keys' functions that read a key, walked -/
import Derived.Test.YtidnfamnigbbmaaWalks
namespace Go.Proofs.Ytidnfamnigbbmaa
open Go.WK Go.RowKit 

theorem bval28_0_2 (x : Int) (z : List UInt8) : Try.prog.built 28 [(0, .int .i64 x), (2, .string (B z))] = some (Val.cs ⟨x, 0, z⟩).toArray := by rfl
theorem bval28_0_1 (x : Int) (y : Int) : Try.prog.built 28 [(0, .int .i64 x), (1, .int .i64 y)] = some (Val.cs ⟨x, y, []⟩).toArray := by rfl
theorem zero3 : (Try.prog.info? 3).map (·.zero) = some (some (.int .i64 0)) := by kernel_rfl

theorem cutTextK (s : List UInt8) (at_ g1 g4 : Nat) (w : World) (hs : Sat ⟨Try.prog, 51, [], w, [g4]⟩ [box g4 3 [.int .i64 (at_ : Int)]] w) (hk : Rd w (some ⟨g1, 0, none⟩) [.string (B s)]) (hne : g1 ≠ g4) (hl : s.length ≤ 140) (ha : at_ ≤ s.length) : Calls Try.prog 29 #[.func (.func 22) #[] #[.pointer (some ⟨g1, 0, none⟩), .pointer (some ⟨g4, 0, none⟩)]] w (Turn w [g4] (fun j : Val × Bool × Nat => .tuple #[aggV j.1, .bool j.2.1]) (fun j => [box g4 3 [.int .i64 (j.2.2 : Int)]]) (CutT s at_)) := by
  refine calls_tri (args := [.func (.func 22) #[] #[.pointer (some ⟨g1, 0, none⟩), .pointer (some ⟨g4, 0, none⟩)]]) (lent := [g4]) (H := [box g4 3 [.int .i64 (at_ : Int)]]) Try.func29 rfl Try.ntmps29 rfl hs ?_
  refine (show Tri _ [(0, _)] _ _ _ from ?_)
  have hK : ∀ cx H, cx.w0 = w → cx.lent = [g4] → RdS cx H (some ⟨g1, 0, none⟩) [.string (B s)] := fun cx H h1 h2 => RdS.lent (by rw [h1]; exact hk) (by rw [h2]; intro a ha; cases ha; simpa using hne)
  refine tri_seq ?_
  refine tri_region ?_
  refine o_alloc (Val.cs Val.zero) rfl zero28 rfl (fun b2 => ?_)
  refine o_assign rfl rfl ?_
  refine triL_nil ?_
  refine thenQ_normal ?_
  refine tri_scope ?_
  refine tri_seq ?_
  refine tri_region ?_
  refine o_assign rfl rfl ?_
  refine triL_nil ?_
  refine thenQ_normal ?_
  refine tri_seq ?_
  refine tri_label ?_
  refine thenQ_normal ?_
  refine tri_seq ?_
  refine tri_block ?_
  refine tri_loop (ι := List UInt8 × Nat × Option Addr × Nat) (F := fun q => [(0, .func (.func 22) #[] #[.pointer (some ⟨g1, 0, none⟩), .pointer (some ⟨g4, 0, none⟩)]), (2, .pointer (some ⟨b2, 0, none⟩)), (4, .slice q.2.2.1 q.1.length q.2.2.2)]) (HH := fun q => [row (.slice q.2.2.1 q.1.length q.2.2.2) 5 1 q.1.length (bytesV q.1), box b2 28 Val.zero.cs, box g4 3 [.int .i64 (q.2.1 : Int)]]) (Pu := fun q => q.2.1 ≤ s.length ∧ at_ ≤ q.2.1 ∧ q.1.length ≤ q.2.1 ∧ decT [] (s.drop at_) = decT q.1 (s.drop q.2.1)) (μ := fun q => s.length - q.2.1) (([], at_, none, 0)) (.cons rfl (.cons rfl (.cons rfl (.nil _)))) (fun _ h => h.nilRow _ _) (⟨ha, Nat.le_refl _, Nat.zero_le _, rfl⟩) (fun q hi => ?_)
  refine tri_block ?_
  refine tri_seq ?_
  refine tri_region ?_
  refine o_move rfl rfl ?_
  refine o_callM (first := []) (cap := [.pointer (some ⟨g1, 0, none⟩), .pointer (some ⟨g4, 0, none⟩)]) [_, _] [_] [] [g4] rfl rfl rfl rfl Try.call22 lend_box lend_box' (fun w1 h1 h2 => nextK s (q.2.1) 1 g1 g4 w1 h2.cx ((hK _ _ rfl rfl) w1 h1) hne hl hi.1 (by omega)) (fun j hj => ?_)
  obtain ⟨t1, ok1, a1⟩ := j
  simp only at hj
  refine o_move rfl rfl ?_
  refine o_extract rfl rfl rfl ?_
  refine o_extract rfl rfl rfl ?_
  refine o_assign rfl rfl ?_
  refine o_assign rfl rfl ?_
  refine triL_nil ?_
  refine thenQ_normal ?_
  refine tri_seq ?_
  refine tri_seq ?_
  refine tri_slots [(6, _), (5, _), (0, _), (2, _), (4, _)] (.cons rfl (.cons rfl (.cons rfl (.cons rfl (.cons rfl (.nil _)))))) ?_
  refine tri_region ?_
  refine o_move rfl rfl ?_
  refine o_not rfl rfl ?_
  refine triL_nil ?_
  refine thenQ_normal ?_
  refine tri_cond rfl (fun h1 => ?_) (fun h1 => ?_)
  · skip
    have h1 : ok1 = false := by simpa using h1
    have hr := hj.resolve_left (fun h => by rw [h.1] at h1; cases h1)
    obtain ⟨rfl, rfl, rfl, hlt⟩ := hr
    refine tri_seq ?_
    refine tri_slots [(2, _)] (.cons rfl (.nil _)) ?_
    refine tri_region ?_
    refine o_build bval28 rfl rfl ?_
    refine o_storeBV sz28 (by first | exact Nth.z | exact .s .z | exact .s (.s .z) | exact .s (.s (.s .z)) | exact .s (.s (.s (.s .z))) | exact .s (.s (.s (.s (.s .z)))) | exact .s (.s (.s (.s (.s (.s .z))))) | exact .s (.s (.s (.s (.s (.s (.s .z))))))) rfl rfl rfl ?_
    refine o_assign rfl rfl ?_
    refine triL_nil ?_
    refine thenQ_normal ?_
    refine tri_ret ?_
    refine thenQ_ret ?_
    refine blockQ_ret ?_
    refine thenQ_ret ?_
    refine blockQ_ret ?_
    refine thenQ_ret ?_
    refine scopeQ_ret ?_
    refine endC2 rfl agg28 sz28 (by first | exact Nth.z | exact .s .z | exact .s (.s .z) | exact .s (.s (.s .z)) | exact .s (.s (.s (.s .z))) | exact .s (.s (.s (.s (.s .z)))) | exact .s (.s (.s (.s (.s (.s .z))))) | exact .s (.s (.s (.s (.s (.s (.s .z))))))) rfl rfl rfl ?_
    exact fin_turn (Val.zero, false, q.2.1) rfl ⟨hi.1, .inr ⟨by rw [hi.2.2.2, decT_end s q.1 q.2.1 (by omega)], rfl⟩⟩ (fun w1 hw1 => hw1.tail.tail)
  · skip
    have h1 : ok1 = true := by simpa using h1
    have hr := hj.resolve_right (fun h => by rw [h.1] at h1; cases h1)
    obtain ⟨rfl, rfl, rfl, hle⟩ := hr
    rw [take1 s q.2.1 hle]
    refine tri_skip ?_
    refine thenQ_normal ?_
    refine tri_seq ?_
    refine tri_seq ?_
    refine tri_region ?_
    refine o_move rfl rfl ?_
    refine o_idxB Try.underlying9 rfl rfl rfl (by decide) (by simp) ?_
    refine o_neqU8 _ 0 rfl rfl rfl ?_
    refine triL_nil ?_
    refine thenQ_normal ?_
    refine tri_if rfl (fun h2 => ?_) (fun h2 => ?_)
    · skip
      have h2 : s.getD q.2.1 0 ≠ 0 := h2
      refine tri_seq ?_
      refine tri_slots [(5, _), (0, _), (2, _), (4, _)] (.cons rfl (.cons rfl (.cons rfl (.cons rfl (.nil _))))) ?_
      refine tri_region ?_
      refine o_move rfl rfl ?_
      refine o_move rfl rfl ?_
      refine o_idxB Try.underlying9 rfl rfl rfl (by decide) (by simp) ?_
      refine o_lit1 Try.underlying44 zs5 rfl rfl rfl rfl rfl (by decide) (by decide) (fun b22 => ?_)
      refine o_append Try.underlying44 zsb5 rfl (by decide) (by first | exact Nth.z | exact .s .z | exact .s (.s .z) | exact .s (.s (.s .z)) | exact .s (.s (.s (.s .z))) | exact .s (.s (.s (.s (.s .z)))) | exact .s (.s (.s (.s (.s (.s .z))))) | exact .s (.s (.s (.s (.s (.s (.s .z))))))) rfl rfl rfl (news := bytesV [s.getD q.2.1 0]) (RdS.row .z) rfl (bytesV_one _) (by unfold maxLen; omega) (by omega) (fun A23 c23 => ?_)
      refine o_assign rfl rfl ?_
      refine triL_nil ?_
      refine thenQ_normal ?_
      refine tri_exit ?_
      refine thenQ_exit ?_
      refine blockQ_here ?_
      refine thenQ_normal ?_
      exact ⟨(q.1 ++ [s.getD q.2.1 0], q.2.1 + 1, A23, c23), (.cons rfl (.cons rfl (.cons (congrArg (fun k : Nat => some (Value.slice A23 k c23)) (by simp)) (.nil _)))), (fun w1 hw1 => by simp only [List.length_append, bytesV_append]; exact hw1.tail), ⟨by simp only; omega, by simp only; omega, by simp; omega, by rw [hi.2.2.2, decT_drop s q.1 q.2.1 (by omega), if_neg h2]⟩, (by simp only; omega)⟩
    · skip
      have h2 : s.getD q.2.1 0 = 0 := Decidable.not_not.1 h2
      refine tri_skip ?_
      refine thenQ_normal ?_
      refine tri_seq ?_
      refine tri_slots [(0, _), (2, _), (4, _)] (.cons rfl (.cons rfl (.cons rfl (.nil _)))) ?_
      refine tri_region ?_
      refine o_move rfl rfl ?_
      refine o_callM (first := []) (cap := [.pointer (some ⟨g1, 0, none⟩), .pointer (some ⟨g4, 0, none⟩)]) [_, _] [_] [] [g4] rfl rfl rfl rfl Try.call22 lend_box lend_box' (fun w1 h1 h2 => nextK s (q.2.1 + 1) 1 g1 g4 w1 h2.cx ((hK _ _ rfl rfl) w1 h1) hne hl (by omega) (by omega)) (fun j hj => ?_)
      obtain ⟨t2, ok2, a2⟩ := j
      simp only at hj
      refine o_move rfl rfl ?_
      refine o_extract rfl rfl rfl ?_
      refine o_extract rfl rfl rfl ?_
      refine o_assign rfl rfl ?_
      refine o_assign rfl rfl ?_
      refine triL_nil ?_
      refine thenQ_normal ?_
      refine tri_seq ?_
      refine tri_block ?_
      refine tri_seq ?_
      refine tri_slots [(6, _), (7, _), (0, _), (2, _), (4, _)] (.cons rfl (.cons rfl (.cons rfl (.cons rfl (.cons rfl (.nil _)))))) ?_
      refine tri_region ?_
      refine o_move rfl rfl ?_
      refine o_not rfl rfl ?_
      refine o_assign rfl rfl ?_
      refine triL_nil ?_
      refine thenQ_normal ?_
      refine tri_cond rfl (fun h3 => ?_) (fun h3 => ?_)
      · skip
        have h3 : ok2 = false := by simpa using h3
        have hr := hj.resolve_left (fun h => by rw [h.1] at h3; cases h3)
        obtain ⟨rfl, rfl, rfl, hlt⟩ := hr
        refine tri_seq ?_
        refine tri_slots [(2, _)] (.cons rfl (.nil _)) ?_
        refine tri_region ?_
        refine o_build bval28 rfl rfl ?_
        refine o_storeBV sz28 (by first | exact Nth.z | exact .s .z | exact .s (.s .z) | exact .s (.s (.s .z)) | exact .s (.s (.s (.s .z))) | exact .s (.s (.s (.s (.s .z)))) | exact .s (.s (.s (.s (.s (.s .z))))) | exact .s (.s (.s (.s (.s (.s (.s .z))))))) rfl rfl rfl ?_
        refine o_assign rfl rfl ?_
        refine triL_nil ?_
        refine thenQ_normal ?_
        refine tri_ret ?_
        refine blockQ_ret ?_
        refine thenQ_ret ?_
        refine blockQ_ret ?_
        refine thenQ_ret ?_
        refine blockQ_ret ?_
        refine thenQ_ret ?_
        refine scopeQ_ret ?_
        refine endC2 rfl agg28 sz28 (by first | exact Nth.z | exact .s .z | exact .s (.s .z) | exact .s (.s (.s .z)) | exact .s (.s (.s (.s .z))) | exact .s (.s (.s (.s (.s .z)))) | exact .s (.s (.s (.s (.s (.s .z))))) | exact .s (.s (.s (.s (.s (.s (.s .z))))))) rfl rfl rfl ?_
        exact fin_turn (Val.zero, false, q.2.1 + 1) rfl ⟨by simp only; omega, .inr ⟨by rw [hi.2.2.2, decT_drop s q.1 q.2.1 (by omega), if_pos h2, if_neg (by omega)], rfl⟩⟩ (fun w1 hw1 => hw1.tail.tail)
      · skip
        have h3 : ok2 = true := by simpa using h3
        have hr := hj.resolve_right (fun h => by rw [h.1] at h3; cases h3)
        obtain ⟨rfl, rfl, rfl, hle2⟩ := hr
        rw [take1 s (q.2.1 + 1) hle2]
        refine tri_seq ?_
        refine tri_slots [(7, _), (0, _), (2, _), (4, _)] (.cons rfl (.cons rfl (.cons rfl (.cons rfl (.nil _))))) ?_
        refine tri_region ?_
        refine o_move rfl rfl ?_
        refine o_idxB Try.underlying9 rfl rfl rfl (by decide) (by simp) ?_
        refine o_eqlU8 _ 1 rfl rfl rfl ?_
        refine o_assign rfl rfl ?_
        refine triL_nil ?_
        refine thenQ_normal ?_
        refine tri_if rfl (fun h4 => ?_) (fun h4 => ?_)
        · skip
          have h4 : s.getD (q.2.1 + 1) 0 = 1 := h4
          refine tri_exit ?_
          refine blockQ_other rfl ?_
          refine thenQ_exit ?_
          refine blockQ_other rfl ?_
          refine thenQ_exit ?_
          refine blockQ_here ?_
          refine thenQ_normal ?_
          refine tri_seq ?_
          refine tri_slots [(2, _), (4, _)] (.cons rfl (.cons rfl (.nil _))) ?_
          refine tri_region ?_
          refine o_move rfl rfl ?_
          refine o_toText Try.underlying44 Try.underlying5 Try.underlying9 rfl rfl (RdS.row .z) rfl ?_
          refine o_build (bval28_0_2 _ _) rfl rfl ?_
          refine o_move rfl rfl ?_
          refine o_lenS Try.underlying44 rfl rfl ?_
          refine o_leq rfl rfl rfl ?_
          refine o_storeBV sz28 (by first | exact Nth.z | exact .s .z | exact .s (.s .z) | exact .s (.s (.s .z)) | exact .s (.s (.s (.s .z))) | exact .s (.s (.s (.s (.s .z)))) | exact .s (.s (.s (.s (.s (.s .z))))) | exact .s (.s (.s (.s (.s (.s (.s .z))))))) rfl rfl rfl ?_
          refine o_assign rfl rfl ?_
          refine triL_nil ?_
          refine thenQ_normal ?_
          refine tri_ret ?_
          refine scopeQ_ret ?_
          refine endC2 rfl agg28 sz28 (by first | exact Nth.z | exact .s .z | exact .s (.s .z) | exact .s (.s (.s .z)) | exact .s (.s (.s (.s .z))) | exact .s (.s (.s (.s (.s .z)))) | exact .s (.s (.s (.s (.s (.s .z))))) | exact .s (.s (.s (.s (.s (.s (.s .z))))))) rfl rfl rfl ?_
          exact fin_turn (⟨2, 0, q.1⟩, decide (q.1.length ≤ 64), q.2.1 + 2) (by rw [← le_dec]; rfl) ⟨by simp only; omega, .inl ⟨q.1, by rw [hi.2.2.2, decT_drop s q.1 q.2.1 (by omega), if_pos h2, if_pos (by omega), if_pos h4], rfl, rfl, by simp only; omega⟩⟩ (fun w1 hw1 => hw1.tail.tail)
        · skip
          have h4 : ¬ s.getD (q.2.1 + 1) 0 = 1 := h4
          refine tri_seq ?_
          refine tri_slots [(7, _), (0, _), (2, _), (4, _)] (.cons rfl (.cons rfl (.cons rfl (.cons rfl (.nil _))))) ?_
          refine tri_region ?_
          refine o_move rfl rfl ?_
          refine o_idxB Try.underlying9 rfl rfl rfl (by decide) (by simp) ?_
          refine o_neqU8 _ 255 rfl rfl rfl ?_
          refine o_assign rfl rfl ?_
          refine triL_nil ?_
          refine thenQ_normal ?_
          refine tri_if rfl (fun h5 => ?_) (fun h5 => ?_)
          · skip
            have h5 : s.getD (q.2.1 + 1) 0 ≠ 255 := h5
            refine tri_seq ?_
            refine tri_slots [(2, _)] (.cons rfl (.nil _)) ?_
            refine tri_region ?_
            refine o_build bval28 rfl rfl ?_
            refine o_storeBV sz28 (by first | exact Nth.z | exact .s .z | exact .s (.s .z) | exact .s (.s (.s .z)) | exact .s (.s (.s (.s .z))) | exact .s (.s (.s (.s (.s .z)))) | exact .s (.s (.s (.s (.s (.s .z))))) | exact .s (.s (.s (.s (.s (.s (.s .z))))))) rfl rfl rfl ?_
            refine o_assign rfl rfl ?_
            refine triL_nil ?_
            refine thenQ_normal ?_
            refine tri_ret ?_
            refine blockQ_ret ?_
            refine thenQ_ret ?_
            refine blockQ_ret ?_
            refine thenQ_ret ?_
            refine blockQ_ret ?_
            refine thenQ_ret ?_
            refine scopeQ_ret ?_
            refine endC2 rfl agg28 sz28 (by first | exact Nth.z | exact .s .z | exact .s (.s .z) | exact .s (.s (.s .z)) | exact .s (.s (.s (.s .z))) | exact .s (.s (.s (.s (.s .z)))) | exact .s (.s (.s (.s (.s (.s .z))))) | exact .s (.s (.s (.s (.s (.s (.s .z))))))) rfl rfl rfl ?_
            exact fin_turn (Val.zero, false, q.2.1 + 2) rfl ⟨by simp only; omega, .inr ⟨by rw [hi.2.2.2, decT_drop s q.1 q.2.1 (by omega), if_pos h2, if_pos (by omega), if_neg h4, if_neg h5], rfl⟩⟩ (fun w1 hw1 => hw1.tail.tail)
          · skip
            have h5 : s.getD (q.2.1 + 1) 0 = 255 := Decidable.not_not.1 h5
            refine tri_skip ?_
            refine blockQ_normal ?_
            refine thenQ_normal ?_
            refine tri_slots [(0, _), (2, _), (4, _)] (.cons rfl (.cons rfl (.cons rfl (.nil _)))) ?_
            refine tri_region ?_
            refine o_move rfl rfl ?_
            refine o_lit1 Try.underlying44 zs5 rfl rfl rfl rfl rfl (by decide) (by decide) (fun b43 => ?_)
            refine o_append Try.underlying44 zsb5 rfl (by decide) (by first | exact Nth.z | exact .s .z | exact .s (.s .z) | exact .s (.s (.s .z)) | exact .s (.s (.s (.s .z))) | exact .s (.s (.s (.s (.s .z)))) | exact .s (.s (.s (.s (.s (.s .z))))) | exact .s (.s (.s (.s (.s (.s (.s .z))))))) rfl rfl rfl (news := bytesV [0]) (RdS.row .z) rfl (bytesV_one _) (by unfold maxLen; omega) (by omega) (fun A44 c44 => ?_)
            refine o_assign rfl rfl ?_
            refine triL_nil ?_
            refine blockQ_normal ?_
            refine thenQ_normal ?_
            exact ⟨(q.1 ++ [0], q.2.1 + 2, A44, c44), (.cons rfl (.cons rfl (.cons (congrArg (fun k : Nat => some (Value.slice A44 k c44)) (by simp)) (.nil _)))), (fun w1 hw1 => by simp only [List.length_append, bytesV_append]; exact hw1.tail), ⟨by simp only; omega, by simp only; omega, by simp; omega, by rw [hi.2.2.2, decT_drop s q.1 q.2.1 (by omega), if_pos h2, if_pos (by omega), if_neg h4, if_pos h5]⟩, (by simp only; omega)⟩

theorem cutK (s : List UInt8) (at_ g1 g4 : Nat) (w : World) (hs : Sat ⟨Try.prog, 60, [], w, [g4]⟩ [box g4 3 [.int .i64 (at_ : Int)]] w) (hk : Rd w (some ⟨g1, 0, none⟩) [.string (B s)]) (hne : g1 ≠ g4) (hl : s.length ≤ 140) (ha : at_ < s.length) : Calls Try.prog 23 #[.func (.func 22) #[] #[.pointer (some ⟨g1, 0, none⟩), .pointer (some ⟨g4, 0, none⟩)]] w (Turn w [g4] (fun j : Val × Bool × Nat => .tuple #[aggV j.1, .bool j.2.1]) (fun j => [box g4 3 [.int .i64 (j.2.2 : Int)]]) (CutV s at_)) := by
  refine calls_tri (args := [.func (.func 22) #[] #[.pointer (some ⟨g1, 0, none⟩), .pointer (some ⟨g4, 0, none⟩)]]) (lent := [g4]) (H := [box g4 3 [.int .i64 (at_ : Int)]]) Try.func23 rfl Try.ntmps23 rfl hs ?_
  refine (show Tri _ [(0, _)] _ _ _ from ?_)
  have hK : ∀ cx H, cx.w0 = w → cx.lent = [g4] → RdS cx H (some ⟨g1, 0, none⟩) [.string (B s)] := fun cx H h1 h2 => RdS.lent (by rw [h1]; exact hk) (by rw [h2]; intro a ha; cases ha; simpa using hne)
  refine tri_seq ?_
  refine tri_region ?_
  refine o_alloc (Val.cs Val.zero) rfl zero28 rfl (fun b2 => ?_)
  refine o_assign rfl rfl ?_
  refine triL_nil ?_
  refine thenQ_normal ?_
  refine tri_seq ?_
  refine tri_region ?_
  refine o_move rfl rfl ?_
  refine o_callM (first := []) (cap := [.pointer (some ⟨g1, 0, none⟩), .pointer (some ⟨g4, 0, none⟩)]) [_] [_] [] [g4] rfl rfl rfl rfl Try.call22 lend_box lend_box' (fun w1 h1 h2 => nextK s (at_) 1 g1 g4 w1 h2.cx ((hK _ _ rfl rfl) w1 h1) hne hl (by omega) (by omega)) (fun j hj => ?_)
  obtain ⟨t1, ok1, a1⟩ := j
  simp only at hj
  obtain ⟨rfl, rfl, rfl, -⟩ := hj.resolve_right (fun h => by omega)
  rw [take1 s at_ (by omega)]
  refine o_move rfl rfl ?_
  refine o_extract rfl rfl rfl ?_
  refine o_extract rfl rfl rfl ?_
  refine o_assign rfl rfl ?_
  refine o_assign rfl rfl ?_
  refine triL_nil ?_
  refine thenQ_normal ?_
  refine tri_seq ?_
  refine tri_seq ?_
  refine tri_slots [(4, _), (2, _), (0, _)] (.cons rfl (.cons rfl (.cons rfl (.nil _)))) ?_
  refine tri_region ?_
  refine o_move rfl rfl ?_
  refine o_idxB Try.underlying9 rfl rfl rfl (by decide) (by simp) ?_
  refine triL_nil ?_
  refine thenQ_normal ?_
  refine tri_block ?_
  refine tri_seq ?_
  refine tri_region ?_
  refine o_eqlU8 _ 1 rfl rfl rfl ?_
  refine o_assign rfl rfl ?_
  refine triL_nil ?_
  refine thenQ_normal ?_
  refine tri_if rfl (fun c1 => ?_) (fun c1 => ?_)
  · skip
    have c1 : s.getD at_ 0 = 1 := c1
    refine tri_seq ?_
    refine tri_slots [(2, _)] (.cons rfl (.nil _)) ?_
    refine tri_region ?_
    refine o_build bval28 rfl rfl ?_
    refine o_storeBV sz28 (by first | exact Nth.z | exact .s .z | exact .s (.s .z) | exact .s (.s (.s .z)) | exact .s (.s (.s (.s .z))) | exact .s (.s (.s (.s (.s .z)))) | exact .s (.s (.s (.s (.s (.s .z))))) | exact .s (.s (.s (.s (.s (.s (.s .z))))))) rfl rfl rfl ?_
    refine o_assign rfl rfl ?_
    refine triL_nil ?_
    refine thenQ_normal ?_
    refine tri_ret ?_
    refine blockQ_ret ?_
    refine thenQ_ret ?_
    refine endC2 rfl agg28 sz28 (by first | exact Nth.z | exact .s .z | exact .s (.s .z) | exact .s (.s (.s .z)) | exact .s (.s (.s (.s .z))) | exact .s (.s (.s (.s (.s .z)))) | exact .s (.s (.s (.s (.s (.s .z))))) | exact .s (.s (.s (.s (.s (.s (.s .z))))))) rfl rfl rfl ?_
    exact fin_turn (⟨0, 0, []⟩, true, at_ + 1) rfl ⟨by simp only; omega, .inl ⟨dec1_1 s at_ ha c1, rfl, by simp only; omega⟩⟩ (fun w1 hw1 => hw1.tail)
  · skip
    have c1 : ¬ s.getD at_ 0 = 1 := c1
    refine tri_join (ι := Unit) (fun u => [(0, .func (.func 22) #[] #[.pointer (some ⟨g1, 0, none⟩), .pointer (some ⟨g4, 0, none⟩)]), (2, .pointer (some ⟨b2, 0, none⟩)), (4, .string (B [s.getD at_ 0])), (16, byteV (s.getD at_ 0)), (20, .bool (decide (s.getD at_ 0 = 2 ∨ s.getD at_ 0 = 3)))]) (fun u => [box b2 28 Val.zero.cs, box g4 3 [.int .i64 ((at_ + 1 : Nat) : Int)]]) (fun u => True) ?_ (fun u hj => ?_)
    · skip
      refine tri_seq ?_
      refine tri_region ?_
      refine o_eqlU8 _ 2 rfl rfl rfl ?_
      refine o_assign rfl rfl ?_
      refine triL_nil ?_
      refine thenQ_normal ?_
      refine tri_if rfl (fun c2 => ?_) (fun c2 => ?_)
      · skip
        have c2 : s.getD at_ 0 = 2 := c2
        refine tri_skip ?_
        refine thenQ_normal ?_
        exact ⟨(), (.cons rfl (.cons rfl (.cons rfl (.cons rfl (.cons (congrArg (fun b => some (Value.bool b)) (decide_eq_decide.2 ⟨.inl, fun _ => c2⟩)) (.nil _)))))), fun _ h => h, trivial⟩
      · skip
        have c2 : ¬ s.getD at_ 0 = 2 := c2
        refine tri_slots [(16, _), (4, _), (2, _), (0, _)] (.cons rfl (.cons rfl (.cons rfl (.cons rfl (.nil _))))) ?_
        refine tri_region ?_
        refine o_eqlU8 _ 3 rfl rfl rfl ?_
        refine o_assign rfl rfl ?_
        refine triL_nil ?_
        refine thenQ_normal ?_
        exact ⟨(), (.cons rfl (.cons rfl (.cons rfl (.cons rfl (.cons (congrArg (fun b => some (Value.bool b)) (decide_eq_decide.2 ⟨.inr, fun h => h.resolve_left c2⟩)) (.nil _)))))), fun _ h => h, trivial⟩
    refine tri_if rfl (fun c3 => ?_) (fun c3 => ?_)
    · skip
      have c3 : s.getD at_ 0 = 2 ∨ s.getD at_ 0 = 3 := c3
      refine tri_seq ?_
      refine tri_region ?_
      refine o_move rfl rfl ?_
      refine o_idxB Try.underlying9 rfl rfl rfl (by decide) (by simp) ?_
      refine o_sub rfl rfl rfl ?_
      refine o_conv rfl rfl Try.underlying5 Try.underlying2 ?_
      refine o_build (bval28_0_1 _ _) rfl rfl ?_
      refine o_storeBV sz28 (by first | exact Nth.z | exact .s .z | exact .s (.s .z) | exact .s (.s (.s .z)) | exact .s (.s (.s (.s .z))) | exact .s (.s (.s (.s (.s .z)))) | exact .s (.s (.s (.s (.s (.s .z))))) | exact .s (.s (.s (.s (.s (.s (.s .z))))))) rfl rfl rfl ?_
      refine o_assign rfl rfl ?_
      refine triL_nil ?_
      refine thenQ_normal ?_
      refine tri_ret ?_
      refine blockQ_ret ?_
      refine thenQ_ret ?_
      refine endC2 rfl agg28 sz28 (by first | exact Nth.z | exact .s .z | exact .s (.s .z) | exact .s (.s (.s .z)) | exact .s (.s (.s (.s .z))) | exact .s (.s (.s (.s (.s .z)))) | exact .s (.s (.s (.s (.s (.s .z))))) | exact .s (.s (.s (.s (.s (.s (.s .z))))))) rfl rfl rfl ?_
      exact fin_turn (⟨3, ((s.getD at_ 0).toNat : Int) - 2, []⟩, true, at_ + 1) (congrArg (fun k : Int => Value.tuple #[aggV ⟨3, k, []⟩, .bool true]) (tag_wrap _ c3)) ⟨by simp only; omega, .inl ⟨dec1_23 s at_ ha c3, rfl, by simp only; omega⟩⟩ (fun w1 hw1 => hw1.tail)
    · skip
      have c3 : ¬ (s.getD at_ 0 = 2 ∨ s.getD at_ 0 = 3) := c3
      refine tri_seq ?_
      refine tri_region ?_
      refine o_eqlU8 _ 4 rfl rfl rfl ?_
      refine o_assign rfl rfl ?_
      refine triL_nil ?_
      refine thenQ_normal ?_
      refine tri_if rfl (fun c4 => ?_) (fun c4 => ?_)
      · skip
        have c4 : s.getD at_ 0 = 4 := c4
        refine tri_seq ?_
        refine tri_slots [(0, _), (2, _)] (.cons rfl (.cons rfl (.nil _))) ?_
        refine tri_region ?_
        refine o_move rfl rfl ?_
        refine o_callM (first := []) (cap := [.pointer (some ⟨g1, 0, none⟩), .pointer (some ⟨g4, 0, none⟩)]) [_] [_] [] [g4] rfl rfl rfl rfl Try.call22 lend_box lend_box' (fun w1 h1 h2 => nextK s (at_ + 1) 8 g1 g4 w1 h2.cx ((hK _ _ rfl rfl) w1 h1) hne hl (by omega) (by omega)) (fun j hj => ?_)
        obtain ⟨t2, ok2, a2⟩ := j
        simp only at hj
        have ht8 : t2.length ≤ 8 := by rcases hj with ⟨_, h, _⟩ | ⟨_, h, _⟩ <;> rw [h] <;> simp <;> omega
        refine o_move rfl rfl ?_
        refine o_extract rfl rfl rfl ?_
        refine o_extract rfl rfl rfl ?_
        refine o_assign rfl rfl ?_
        refine o_assign rfl rfl ?_
        refine triL_nil ?_
        refine thenQ_normal ?_
        refine tri_seq ?_
        refine tri_slots [(7, _), (6, _), (2, _)] (.cons rfl (.cons rfl (.cons rfl (.nil _)))) ?_
        refine tri_region ?_
        refine o_assign rfl rfl ?_
        refine triL_nil ?_
        refine thenQ_normal ?_
        refine tri_seq ?_
        refine tri_seq ?_
        refine tri_region ?_
        refine o_move rfl rfl ?_
        refine o_lenB Try.underlying9 rfl rfl ?_
        refine o_move rfl rfl ?_
        refine triL_nil ?_
        refine thenQ_normal ?_
        refine tri_block ?_
        refine tri_loop (ι := Nat) (F := fun i => [(2, .pointer (some ⟨b2, 0, none⟩)), (6, .string (B t2)), (7, .bool ok2), (8, .int .u64 (unbe (t2.take i) : Int)), (36, .int .i64 (t2.length : Int)), (37, .int .i64 (i : Int))]) (HH := fun i => [box b2 28 Val.zero.cs, box g4 3 [.int .i64 (a2 : Int)]]) (Pu := fun i => i ≤ t2.length) (μ := fun i => t2.length - i) (0) (.cons rfl (.cons rfl (.cons rfl (.cons rfl (.cons rfl (.cons rfl (.nil _))))))) (fun _ h => h) (Nat.zero_le _) (fun i hi => ?_)
        refine tri_seq ?_
        refine tri_region ?_
        refine o_lss rfl rfl rfl ?_
        refine triL_nil ?_
        refine thenQ_normal ?_
        refine tri_seq ?_
        refine tri_if rfl (fun h8 => ?_) (fun h8 => ?_)
        · skip
          refine tri_skip ?_
          refine thenQ_normal ?_
          refine tri_seq ?_
          refine tri_block ?_
          refine tri_seq ?_
          refine tri_region ?_
          refine o_move rfl rfl ?_
          refine o_assign rfl rfl ?_
          refine triL_nil ?_
          refine thenQ_normal ?_
          refine tri_region ?_
          refine o_move rfl rfl ?_
          refine o_shlB rfl rfl rfl (unbe_56 t2 i (by omega)) ?_
          refine o_move rfl rfl ?_
          refine o_move rfl rfl ?_
          refine o_idxB Try.underlying9 rfl rfl rfl (by omega) (by omega) ?_
          refine o_wide64 rfl rfl Try.underlying5 Try.underlying48 ?_
          refine o_orB rfl rfl rfl (unbe_56 t2 i (by omega)) ?_
          refine o_assign rfl rfl ?_
          refine triL_nil ?_
          refine blockQ_normal ?_
          refine thenQ_normal ?_
          refine tri_slots [(8, _), (2, _), (6, _), (7, _), (36, _), (37, _)] (.cons rfl (.cons rfl (.cons rfl (.cons rfl (.cons rfl (.cons rfl (.nil _))))))) ?_
          refine tri_region ?_
          refine o_addN rfl rfl rfl (by omega) ?_
          refine o_move rfl rfl ?_
          refine triL_nil ?_
          refine thenQ_normal ?_
          exact ⟨i + 1, (.cons rfl (.cons rfl (.cons rfl (.cons (congrArg (fun k : Nat => some (Value.int .u64 (k : Int))) (unbe_snoc t2 i (by omega)).symm) (.cons rfl (.cons rfl (.nil _))))))), fun _ h => h, by omega, by omega⟩
        · skip
          refine tri_exit ?_
          refine thenQ_exit ?_
          refine thenQ_exit ?_
          refine blockQ_here ?_
          refine thenQ_normal ?_
          refine tri_seq ?_
          refine tri_slots [(2, _), (7, _), (8, _)] (.cons rfl (.cons rfl (.cons rfl (.nil _)))) ?_
          have hiz : i = t2.length := by omega
          rw [show t2.take i = t2 from List.take_of_length_le (by omega)]
          refine tri_region ?_
          refine o_move rfl rfl ?_
          refine o_xor63 rfl rfl rfl (unbe_64 t2 ht8) ?_
          refine o_conv rfl rfl Try.underlying48 Try.underlying2 ?_
          rw [wrap63 _ (unbe_64 t2 ht8)]
          refine o_build (bval28_0_1 _ _) rfl rfl ?_
          refine o_move rfl rfl ?_
          refine o_storeBV sz28 (by first | exact Nth.z | exact .s .z | exact .s (.s .z) | exact .s (.s (.s .z)) | exact .s (.s (.s (.s .z))) | exact .s (.s (.s (.s (.s .z)))) | exact .s (.s (.s (.s (.s (.s .z))))) | exact .s (.s (.s (.s (.s (.s (.s .z))))))) rfl rfl rfl ?_
          refine o_assign rfl rfl ?_
          refine triL_nil ?_
          refine thenQ_normal ?_
          refine tri_ret ?_
          refine blockQ_ret ?_
          refine thenQ_ret ?_
          refine endC2 rfl agg28 sz28 (by first | exact Nth.z | exact .s .z | exact .s (.s .z) | exact .s (.s (.s .z)) | exact .s (.s (.s (.s .z))) | exact .s (.s (.s (.s (.s .z)))) | exact .s (.s (.s (.s (.s (.s .z))))) | exact .s (.s (.s (.s (.s (.s (.s .z))))))) rfl rfl rfl ?_
          refine fin_turn (⟨1, (unbe t2 : Int) - 9223372036854775808, []⟩, ok2, a2) rfl ?_ (fun w1 hw1 => hw1.tail)
          rcases hj with ⟨h1, h2, h3, h4⟩ | ⟨h1, h2, h3, h4⟩
          · exact ⟨by simp only; omega, .inl ⟨by rw [h2, h3]; exact dec1_4 s at_ c4 h4, h1, by simp only; omega⟩⟩
          · exact ⟨by simp only; omega, .inr ⟨dec1_4n s at_ ha c4 h4, h1⟩⟩
      · skip
        have c4 : ¬ s.getD at_ 0 = 4 := c4
        refine tri_seq ?_
        refine tri_slots [(0, _), (2, _), (16, _)] (.cons rfl (.cons rfl (.cons rfl (.nil _)))) ?_
        refine tri_region ?_
        refine o_eqlU8 _ 5 rfl rfl rfl ?_
        refine o_assign rfl rfl ?_
        refine triL_nil ?_
        refine thenQ_normal ?_
        refine tri_if rfl (fun c5 => ?_) (fun c5 => ?_)
        · skip
          have c5 : s.getD at_ 0 = 5 := c5
          refine tri_seq ?_
          refine tri_region ?_
          refine o_move rfl rfl ?_
          refine o_callM (first := []) (cap := []) [_] [_] [] [g4] rfl rfl rfl rfl Try.call29 lend_box lend_box' (fun w1 h1 h2 => cutTextK s (at_ + 1) g1 g4 w1 h2.cx ((hK _ _ rfl rfl) w1 h1) hne hl (by omega)) (fun j hj => ?_)
          refine o_extract rfl rfl rfl ?_
          refine o_extract rfl rfl rfl ?_
          refine o_storeBV sz28 (by first | exact Nth.z | exact .s .z | exact .s (.s .z) | exact .s (.s (.s .z)) | exact .s (.s (.s (.s .z))) | exact .s (.s (.s (.s (.s .z)))) | exact .s (.s (.s (.s (.s (.s .z))))) | exact .s (.s (.s (.s (.s (.s (.s .z))))))) rfl rfl rfl ?_
          refine o_assign rfl rfl ?_
          refine triL_nil ?_
          refine thenQ_normal ?_
          refine tri_ret ?_
          refine blockQ_ret ?_
          refine thenQ_ret ?_
          refine endC2 rfl agg28 sz28 (by first | exact Nth.z | exact .s .z | exact .s (.s .z) | exact .s (.s (.s .z)) | exact .s (.s (.s (.s .z))) | exact .s (.s (.s (.s (.s .z)))) | exact .s (.s (.s (.s (.s (.s .z))))) | exact .s (.s (.s (.s (.s (.s (.s .z))))))) rfl rfl rfl ?_
          refine fin_turn (j.1, j.2.1, j.2.2) rfl ?_ (fun w1 hw1 => hw1.tail)
          obtain ⟨hj1, hj2⟩ := hj
          rcases hj2 with ⟨t, h1, h2, h3, h4⟩ | ⟨h1, h2⟩
          · have e := dec1_5 s at_ ha c5 t _ h1
            refine ⟨hj1, ?_⟩
            by_cases h64 : t.length ≤ 64
            · rw [if_pos h64] at e
              exact .inl ⟨by rw [e, h2], by rw [h3]; exact decide_eq_true h64, by simp only; omega⟩
            · rw [if_neg h64] at e
              exact .inr ⟨e, by rw [h3]; exact decide_eq_false h64⟩
          · exact ⟨hj1, .inr ⟨dec1_5n s at_ ha c5 h1, h2⟩⟩
        · skip
          have c5 : ¬ s.getD at_ 0 = 5 := c5
          refine tri_skip ?_
          refine blockQ_normal ?_
          refine thenQ_normal ?_
          refine tri_seq ?_
          refine tri_slots [(2, _)] (.cons rfl (.nil _)) ?_
          refine tri_region ?_
          refine o_build bval28 rfl rfl ?_
          refine o_storeBV sz28 (by first | exact Nth.z | exact .s .z | exact .s (.s .z) | exact .s (.s (.s .z)) | exact .s (.s (.s (.s .z))) | exact .s (.s (.s (.s (.s .z)))) | exact .s (.s (.s (.s (.s (.s .z))))) | exact .s (.s (.s (.s (.s (.s (.s .z))))))) rfl rfl rfl ?_
          refine o_assign rfl rfl ?_
          refine triL_nil ?_
          refine thenQ_normal ?_
          refine tri_ret ?_
          refine endC2 rfl agg28 sz28 (by first | exact Nth.z | exact .s .z | exact .s (.s .z) | exact .s (.s (.s .z)) | exact .s (.s (.s (.s .z))) | exact .s (.s (.s (.s (.s .z)))) | exact .s (.s (.s (.s (.s (.s .z))))) | exact .s (.s (.s (.s (.s (.s (.s .z))))))) rfl rfl rfl ?_
          exact fin_turn (Val.zero, false, at_ + 1) rfl ⟨by simp only; omega, .inr ⟨dec1_0 s at_ ha c1 c3 c4 c5, rfl⟩⟩ (fun w1 hw1 => hw1.tail)

theorem decK (s : List UInt8) (w : World) (hs : s.length ≤ 140737488355328) : Calls Try.prog 9 #[.string (B s)] w (DecR s w) := by
  refine calls_tri (args := [.string (B s)]) (lent := []) (H := []) Try.func9 rfl Try.ntmps9 rfl (Sat.start _ _ _ _) ?_
  refine (show Tri _ [(0, _)] _ _ _ from ?_)
  refine tri_seq ?_
  refine tri_region ?_
  refine o_box _ rfl rfl rfl (fun b1 => ?_)
  refine o_assign rfl rfl ?_
  refine o_assign rfl rfl ?_
  refine triL_nil ?_
  refine thenQ_normal ?_
  refine tri_seq ?_
  refine tri_seq ?_
  refine tri_region ?_
  refine o_load agg9 (by first | exact Nth.z | exact .s .z | exact .s (.s .z) | exact .s (.s (.s .z)) | exact .s (.s (.s (.s .z))) | exact .s (.s (.s (.s (.s .z)))) | exact .s (.s (.s (.s (.s (.s .z))))) | exact .s (.s (.s (.s (.s (.s (.s .z))))))) rfl rfl rfl ?_
  refine o_lenB Try.underlying9 rfl rfl ?_
  refine o_gtr rfl rfl rfl ?_
  refine triL_nil ?_
  refine thenQ_normal ?_
  refine tri_if rfl (fun h0 => ?_) (fun h0 => ?_)
  · skip
    refine tri_seq ?_
    refine tri_slots [] (.nil _) ?_
    refine tri_region ?_
    refine o_assign rfl rfl ?_
    refine o_assign rfl rfl ?_
    refine triL_nil ?_
    refine thenQ_normal ?_
    refine tri_ret ?_
    refine thenQ_ret ?_
    refine end2 rfl rfl rfl ?_
    exact fun w1 hw1 => .inl ⟨by rw [decS, if_pos (by omega)], fin_pure w1 hw1⟩
  · skip
    have h140 : s.length ≤ 140 := by omega
    refine tri_skip ?_
    refine thenQ_normal ?_
    refine tri_seq ?_
    refine tri_slots [(1, _)] (.cons rfl (.nil _)) ?_
    refine tri_region ?_
    refine o_alloc _ rfl zero3 rfl (fun b4 => ?_)
    refine o_store sz3 (by first | exact Nth.z | exact .s .z | exact .s (.s .z) | exact .s (.s (.s .z)) | exact .s (.s (.s (.s .z))) | exact .s (.s (.s (.s (.s .z)))) | exact .s (.s (.s (.s (.s (.s .z))))) | exact .s (.s (.s (.s (.s (.s (.s .z))))))) rfl rfl rfl rfl rfl (Nat.le_of_ble_eq_true rfl) rfl ?_
    refine triL_nil ?_
    refine thenQ_normal ?_
    refine tri_seq ?_
    refine tri_region ?_
    refine o_makeFunc rfl rfl rfl ?_
    refine o_assign rfl rfl ?_
    refine triL_nil ?_
    refine thenQ_normal ?_
    refine tri_seq ?_
    refine tri_region ?_
    refine o_assign rfl rfl ?_
    refine triL_nil ?_
    refine thenQ_normal ?_
    refine tri_seq ?_
    refine tri_block ?_
    refine tri_loop (ι := List Val × Nat × Option Addr × Nat) (F := fun q => [(1, .pointer (some ⟨b1, 0, none⟩)), (4, .pointer (some ⟨b4, 0, none⟩)), (5, .func (.func 22) #[] #[.pointer (some ⟨b1, 0, none⟩), .pointer (some ⟨b4, 0, none⟩)]), (6, .slice q.2.2.1 q.1.length q.2.2.2)]) (HH := fun q => [row (.slice q.2.2.1 q.1.length q.2.2.2) 28 3 q.1.length (valsV q.1), box b4 3 [.int .i64 (q.2.1 : Int)], box b1 9 [.string (B s)]]) (Pu := fun q => q.2.1 ≤ s.length ∧ q.1.length ≤ 16 ∧ decN 16 s.length [] s = decN 16 (s.length - q.2.1) q.1 (s.drop q.2.1)) (μ := fun q => s.length - q.2.1) (([], 0, none, 0)) (.cons rfl (.cons rfl (.cons rfl (.cons rfl (.nil _))))) (fun _ h => h.nilRow _ _) (⟨Nat.zero_le _, Nat.zero_le _, rfl⟩) (fun q hi => ?_)
    refine tri_seq ?_
    refine tri_seq ?_
    refine tri_region ?_
    refine o_load agg3 (by first | exact Nth.z | exact .s .z | exact .s (.s .z) | exact .s (.s (.s .z)) | exact .s (.s (.s (.s .z))) | exact .s (.s (.s (.s (.s .z)))) | exact .s (.s (.s (.s (.s (.s .z))))) | exact .s (.s (.s (.s (.s (.s (.s .z))))))) rfl rfl rfl ?_
    refine o_load agg9 (by first | exact Nth.z | exact .s .z | exact .s (.s .z) | exact .s (.s (.s .z)) | exact .s (.s (.s (.s .z))) | exact .s (.s (.s (.s (.s .z)))) | exact .s (.s (.s (.s (.s (.s .z))))) | exact .s (.s (.s (.s (.s (.s (.s .z))))))) rfl rfl rfl ?_
    refine o_lenB Try.underlying9 rfl rfl ?_
    refine o_lss rfl rfl rfl ?_
    refine triL_nil ?_
    refine thenQ_normal ?_
    refine tri_if rfl (fun h1 => ?_) (fun h1 => ?_)
    · skip
      refine tri_skip ?_
      refine thenQ_normal ?_
      refine tri_block ?_
      refine tri_seq ?_
      refine tri_slots [(1, _), (4, _), (5, _), (6, _)] (.cons rfl (.cons rfl (.cons rfl (.cons rfl (.nil _))))) ?_
      refine tri_region ?_
      refine o_move rfl rfl ?_
      refine o_callM (first := []) (cap := []) [_] [_] [_] [b4] rfl rfl rfl rfl Try.call23 lend_box lend_box' (fun w1 h1 h2 => cutK s q.2.1 b1 b4 w1 h2.cx (RdS.box (.s (.s .z)) w1 h1) h1.ne2 (by omega) (by omega)) (fun j hj => ?_)
      refine o_move rfl rfl ?_
      refine o_extract rfl rfl rfl ?_
      refine o_extract rfl rfl rfl ?_
      refine o_alloc (Val.cs Val.zero) rfl zero28 rfl (fun b7 => ?_)
      refine o_storeBV sz28 (by first | exact Nth.z | exact .s .z | exact .s (.s .z) | exact .s (.s (.s .z)) | exact .s (.s (.s (.s .z))) | exact .s (.s (.s (.s (.s .z)))) | exact .s (.s (.s (.s (.s (.s .z))))) | exact .s (.s (.s (.s (.s (.s (.s .z))))))) rfl rfl rfl ?_
      refine o_assign rfl rfl ?_
      refine triL_nil ?_
      refine thenQ_normal ?_
      refine tri_seq ?_
      refine tri_seq ?_
      refine tri_slots [(8, _), (7, _), (1, _), (4, _), (5, _), (6, _)] (.cons rfl (.cons rfl (.cons rfl (.cons rfl (.cons rfl (.cons rfl (.nil _))))))) ?_
      refine tri_region ?_
      refine o_move rfl rfl ?_
      refine o_not rfl rfl ?_
      refine o_move rfl rfl ?_
      refine' triL_or [_, _, _] [(7, _), (1, _), (4, _), (5, _), (6, _)] (dj := 24) (dr := 27) rfl rfl (fun g1 => ?_) ⟨_, rfl, rfl, rfl, (.cons rfl (.cons rfl (.cons rfl (.cons rfl (.cons rfl (.nil _))))))⟩ rfl ?_
      rotate_left
      · skip
        skip
        refine o_move rfl rfl ?_
        refine o_lenS Try.underlying22 rfl rfl ?_
        refine o_eqlI rfl rfl rfl ?_
        exact triL_nil (Piece.mk rfl rfl (.cons rfl (.cons rfl (.cons rfl (.cons rfl (.cons rfl (.nil _)))))) (fun _ h => h))
      refine triL_nil ?_
      refine thenQ_normal ?_
      refine tri_cond rfl (fun h2 => ?_) (fun h2 => ?_)
      · skip
        simp only [Bool.or_eq_true, Bool.not_eq_true', decide_eq_true_eq] at h2
        refine tri_seq ?_
        refine tri_slots [] (.nil _) ?_
        refine tri_region ?_
        refine o_assign rfl rfl ?_
        refine o_assign rfl rfl ?_
        refine triL_nil ?_
        refine thenQ_normal ?_
        refine tri_ret ?_
        refine thenQ_ret ?_
        refine blockQ_ret ?_
        refine thenQ_ret ?_
        refine blockQ_ret ?_
        refine thenQ_ret ?_
        refine end2 rfl rfl rfl ?_
        have hno : decS s = none := by
          rw [decS, if_neg (by omega), hi.2.2]
          rcases hj.2 with ⟨hv, ht, hlt⟩ | ⟨hv, ht⟩
          · rw [decN_step 16 s q.2.1 j.2.2 q.1 j.1 (by omega) hv hj.1, if_pos (by rcases h2 with h2 | h2; rw [ht] at h2; cases h2; omega)]
          · exact decN_none 16 s q.2.1 q.1 (by omega) hv
        exact fun w1 hw1 => .inl ⟨hno, fin_pure w1 hw1⟩
      · skip
        simp only [Bool.or_eq_false_iff, Bool.not_eq_false', decide_eq_false_iff_not] at h2
        obtain ⟨hv, ht, hlt⟩ := hj.2.resolve_right (fun h => by rw [h.2] at h2; cases h2.1)
        refine tri_skip ?_
        refine thenQ_normal ?_
        refine tri_region ?_
        refine o_move rfl rfl ?_
        refine o_loadBV agg28 sz28 (by first | exact Nth.z | exact .s .z | exact .s (.s .z) | exact .s (.s (.s .z)) | exact .s (.s (.s (.s .z))) | exact .s (.s (.s (.s (.s .z)))) | exact .s (.s (.s (.s (.s (.s .z))))) | exact .s (.s (.s (.s (.s (.s (.s .z))))))) rfl rfl ?_
        refine o_lit1 Try.underlying22 zs28 rfl rfl rfl rfl rfl (by decide) (by decide) (fun b31 => ?_)
        refine o_append Try.underlying22 zsb28 rfl (by decide) (by first | exact Nth.z | exact .s .z | exact .s (.s .z) | exact .s (.s (.s .z)) | exact .s (.s (.s (.s .z))) | exact .s (.s (.s (.s (.s .z)))) | exact .s (.s (.s (.s (.s (.s .z))))) | exact .s (.s (.s (.s (.s (.s (.s .z))))))) rfl rfl rfl (news := valsV [j.1]) (RdS.row .z) rfl (valsV_one _) (by unfold maxLen; omega) (by omega) (fun A32 c32 => ?_)
        refine o_assign rfl rfl ?_
        refine triL_nil ?_
        refine blockQ_normal ?_
        refine thenQ_normal ?_
        have e := decN_step 16 s q.2.1 j.2.2 q.1 j.1 (by omega) hv hj.1
        rw [if_neg (by omega)] at e
        exact ⟨(q.1 ++ [j.1], j.2.2, A32, c32), (.cons rfl (.cons rfl (.cons rfl (.cons (congrArg (fun k : Nat => some (Value.slice A32 k c32)) (by simp)) (.nil _))))), (fun w1 hw1 => by simp only [List.length_append, valsV_append]; exact hw1.tail.tail), ⟨hj.1, by simp; omega, by rw [hi.2.2, e]⟩, (by have := hj.1; simp only; omega)⟩
    · skip
      refine tri_exit ?_
      refine thenQ_exit ?_
      refine thenQ_exit ?_
      refine blockQ_here ?_
      refine thenQ_normal ?_
      refine tri_seq ?_
      refine tri_slots [(6, _)] (.cons rfl (.nil _)) ?_
      refine tri_region ?_
      refine o_move rfl rfl ?_
      refine o_assign rfl rfl ?_
      refine o_assign rfl rfl ?_
      refine triL_nil ?_
      refine thenQ_normal ?_
      refine tri_ret ?_
      refine end2 rfl rfl rfl ?_
      have hat : q.2.1 = s.length := by omega
      rw [hat, decN_end] at hi
      exact fun w1 hw1 => .inr ⟨q.1, by rw [decS, if_neg (by omega), hi.2.2], fin_row (fun v => .tuple #[v, .int .i64 0]) .z w1 hw1⟩

theorem firstR (s : List UInt8) (w : World) (hp : 0 < s.length) (hl : s.length ≤ 140) : Calls Try.prog 20 #[.string (B s)] w (Pure w (.tuple #[aggV (firstV s), .int .i64 (firstN s : Int)])) := by
  refine calls_tri (args := [.string (B s)]) (lent := []) (H := []) Try.func20 rfl Try.ntmps20 rfl (Sat.start _ _ _ _) ?_
  refine (show Tri _ [(0, _)] _ _ _ from ?_)
  refine tri_seq ?_
  refine tri_region ?_
  refine o_alloc (Val.cs Val.zero) rfl zero28 rfl (fun b2 => ?_)
  refine o_assign rfl rfl ?_
  refine triL_nil ?_
  refine thenQ_normal ?_
  refine tri_seq ?_
  refine tri_seq ?_
  refine tri_region ?_
  refine o_move rfl rfl ?_
  refine o_idxB Try.underlying9 rfl rfl rfl (by decide) (by omega) ?_
  refine o_eqlU8 _ 1 rfl rfl rfl ?_
  refine triL_nil ?_
  refine thenQ_normal ?_
  refine tri_if rfl (fun c1 => ?_) (fun c1 => ?_)
  · skip
    have c1 : s.getD 0 0 = 1 := c1
    refine tri_seq ?_
    refine tri_slots [(2, _)] (.cons rfl (.nil _)) ?_
    refine tri_region ?_
    refine o_build bval28 rfl rfl ?_
    refine o_storeBV sz28 (by first | exact Nth.z | exact .s .z | exact .s (.s .z) | exact .s (.s (.s .z)) | exact .s (.s (.s (.s .z))) | exact .s (.s (.s (.s (.s .z)))) | exact .s (.s (.s (.s (.s (.s .z))))) | exact .s (.s (.s (.s (.s (.s (.s .z))))))) rfl rfl rfl ?_
    refine o_assign rfl rfl ?_
    refine triL_nil ?_
    refine thenQ_normal ?_
    refine tri_ret ?_
    refine thenQ_ret ?_
    refine endC2 rfl agg28 sz28 (by first | exact Nth.z | exact .s .z | exact .s (.s .z) | exact .s (.s (.s .z)) | exact .s (.s (.s (.s .z))) | exact .s (.s (.s (.s (.s .z)))) | exact .s (.s (.s (.s (.s (.s .z))))) | exact .s (.s (.s (.s (.s (.s (.s .z))))))) rfl rfl rfl ?_
    have hf : firstV s = ⟨0, 0, []⟩ ∧ firstN s = 1 := by rw [firstV, firstN, dec0_1 s hp c1]; exact ⟨rfl, by simp; omega⟩
    exact fun w1 hw1 => ⟨by rw [hf.1, hf.2]; rfl, hw1.chg⟩
  · skip
    have c1 : ¬ s.getD 0 0 = 1 := c1
    refine tri_skip ?_
    refine thenQ_normal ?_
    refine tri_seq ?_
    refine tri_seq ?_
    refine tri_slots [(2, _), (0, _)] (.cons rfl (.cons rfl (.nil _))) ?_
    refine tri_region ?_
    refine o_move rfl rfl ?_
    refine o_idxB Try.underlying9 rfl rfl rfl (by decide) (by omega) ?_
    refine o_eqlU8 _ 2 rfl rfl rfl ?_
    refine o_move rfl rfl ?_
    refine' triL_or [_, _, _] [(2, _), (0, _)] (dj := 15) (dr := 18) rfl rfl (fun g1 => ?_) ⟨_, rfl, rfl, rfl, (.cons rfl (.cons rfl (.nil _)))⟩ rfl ?_
    rotate_left
    · skip
      skip
      refine o_move rfl rfl ?_
      refine o_idxB Try.underlying9 rfl rfl rfl (by decide) (by omega) ?_
      refine o_eqlU8 _ 3 rfl rfl rfl ?_
      exact triL_nil (Piece.mk rfl rfl (.cons rfl (.cons rfl (.nil _))) (fun _ h => h))
    refine triL_nil ?_
    refine thenQ_normal ?_
    refine tri_cond rfl (fun c2 => ?_) (fun c2 => ?_)
    · skip
      have c2 : s.getD 0 0 = 2 ∨ s.getD 0 0 = 3 := by simpa using c2
      refine tri_seq ?_
      have hb := (s.getD (Int.toNat 0) 0).toNat_lt
      refine tri_region ?_
      refine o_move rfl rfl ?_
      refine o_idxB Try.underlying9 rfl rfl rfl (by decide) (by omega) ?_
      refine o_wideI rfl rfl Try.underlying5 Try.underlying2 ?_
      refine o_subN rfl rfl rfl (by omega) ?_
      refine o_build (bval28_0_1 _ _) rfl rfl ?_
      refine o_storeBV sz28 (by first | exact Nth.z | exact .s .z | exact .s (.s .z) | exact .s (.s (.s .z)) | exact .s (.s (.s (.s .z))) | exact .s (.s (.s (.s (.s .z)))) | exact .s (.s (.s (.s (.s (.s .z))))) | exact .s (.s (.s (.s (.s (.s (.s .z))))))) rfl rfl rfl ?_
      refine o_assign rfl rfl ?_
      refine triL_nil ?_
      refine thenQ_normal ?_
      refine tri_ret ?_
      refine thenQ_ret ?_
      refine endC2 rfl agg28 sz28 (by first | exact Nth.z | exact .s .z | exact .s (.s .z) | exact .s (.s (.s .z)) | exact .s (.s (.s (.s .z))) | exact .s (.s (.s (.s (.s .z)))) | exact .s (.s (.s (.s (.s (.s .z))))) | exact .s (.s (.s (.s (.s (.s (.s .z))))))) rfl rfl rfl ?_
      have hf : firstV s = ⟨3, ((s.getD 0 0).toNat : Int) - 2, []⟩ ∧ firstN s = 1 := by rw [firstV, firstN, dec0_23 s hp c2]; exact ⟨rfl, by simp; omega⟩
      exact fun w1 hw1 => ⟨by rw [hf.1, hf.2]; rfl, hw1.chg⟩
    · skip
      have c2 : ¬ (s.getD 0 0 = 2 ∨ s.getD 0 0 = 3) := by simpa using c2
      refine tri_skip ?_
      refine thenQ_normal ?_
      refine tri_seq ?_
      refine tri_seq ?_
      refine tri_region ?_
      refine o_move rfl rfl ?_
      refine o_idxB Try.underlying9 rfl rfl rfl (by decide) (by omega) ?_
      refine o_eqlU8 _ 4 rfl rfl rfl ?_
      refine o_move rfl rfl ?_
      refine' triL_and [_, _, _] [(2, _), (0, _)] (dj := 28) (dr := 31) rfl rfl (fun g2 => ?_) ⟨_, rfl, rfl, rfl, (.cons rfl (.cons rfl (.nil _)))⟩ rfl ?_
      rotate_left
      · skip
        skip
        refine o_move rfl rfl ?_
        refine o_lenB Try.underlying9 rfl rfl ?_
        refine o_geq rfl rfl rfl ?_
        exact triL_nil (Piece.mk rfl rfl (.cons rfl (.cons rfl (.nil _))) (fun _ h => h))
      refine triL_nil ?_
      refine thenQ_normal ?_
      refine tri_cond rfl (fun c4 => ?_) (fun c4 => ?_)
      · skip
        simp only [Bool.and_eq_true, decide_eq_true_eq] at c4
        have c40 : s.getD 0 0 = 4 := c4.1
        refine tri_seq ?_
        refine tri_region ?_
        refine o_assign rfl rfl ?_
        refine triL_nil ?_
        refine thenQ_normal ?_
        refine tri_seq ?_
        refine tri_seq ?_
        refine tri_region ?_
        refine o_assign rfl rfl ?_
        refine triL_nil ?_
        refine thenQ_normal ?_
        refine tri_block ?_
        refine tri_loop (ι := Nat) (F := fun i => [(0, .string (B s)), (2, .pointer (some ⟨b2, 0, none⟩)), (4, .int .u64 (unbe ((s.drop 1).take i) : Int)), (5, .int .i64 ((i : Int) + 1))]) (HH := fun i => [box b2 28 Val.zero.cs]) (Pu := fun i => i ≤ 8) (μ := fun i => 8 - i) (0) (.cons rfl (.cons rfl (.cons rfl (.cons rfl (.nil _))))) (fun _ h => h) (by omega) (fun i hi => ?_)
        refine tri_seq ?_
        refine tri_seq ?_
        refine tri_region ?_
        refine o_move rfl rfl ?_
        refine o_lss rfl rfl rfl ?_
        refine triL_nil ?_
        refine thenQ_normal ?_
        refine tri_if rfl (fun h8 => ?_) (fun h8 => ?_)
        · skip
          refine tri_skip ?_
          refine thenQ_normal ?_
          refine tri_seq ?_
          refine tri_block ?_
          refine tri_region ?_
          refine o_move rfl rfl ?_
          refine o_mulB rfl rfl rfl (unbe_56 (s.drop 1) i (by omega)) ?_
          refine o_move rfl rfl ?_
          refine o_move rfl rfl ?_
          refine o_idxB Try.underlying9 rfl rfl rfl (by omega) (by omega) ?_
          refine o_wide64 rfl rfl Try.underlying5 Try.underlying48 ?_
          refine o_addB rfl rfl rfl (unbe_56 (s.drop 1) i (by omega)) ?_
          refine o_assign rfl rfl ?_
          refine triL_nil ?_
          refine blockQ_normal ?_
          refine thenQ_normal ?_
          refine tri_slots [(4, _), (0, _), (2, _), (5, _)] (.cons rfl (.cons rfl (.cons rfl (.cons rfl (.nil _))))) ?_
          refine tri_region ?_
          refine o_move rfl rfl ?_
          refine o_addN rfl rfl rfl (by omega) ?_
          refine o_assign rfl rfl ?_
          refine triL_nil ?_
          refine thenQ_normal ?_
          exact ⟨i + 1, (.cons rfl (.cons rfl (.cons (congrArg (fun k : Nat => some (Value.int .u64 (k : Int))) (by rw [unbe_snoc (s.drop 1) i (by simp; omega), getD_drop, show ((i : Int) + 1).toNat = 1 + i by omega])) (.cons (congrArg (fun k : Int => some (Value.int .i64 k)) (by omega)) (.nil _))))), fun _ h => h, by omega, by omega⟩
        · skip
          obtain rfl : i = 8 := by omega
          refine tri_exit ?_
          refine thenQ_exit ?_
          refine thenQ_exit ?_
          refine blockQ_here ?_
          refine thenQ_normal ?_
          refine tri_seq ?_
          refine tri_slots [(2, _), (4, _)] (.cons rfl (.cons rfl (.nil _))) ?_
          refine tri_region ?_
          refine o_move rfl rfl ?_
          refine o_sub63 rfl rfl rfl (unbe_64 ((s.drop 1).take 8) (by simp; omega)) ?_
          refine o_conv rfl rfl Try.underlying48 Try.underlying2 ?_
          rw [wrap63 _ (unbe_64 ((s.drop 1).take 8) (by simp; omega))]
          refine o_build (bval28_0_1 _ _) rfl rfl ?_
          refine o_storeBV sz28 (by first | exact Nth.z | exact .s .z | exact .s (.s .z) | exact .s (.s (.s .z)) | exact .s (.s (.s (.s .z))) | exact .s (.s (.s (.s (.s .z)))) | exact .s (.s (.s (.s (.s (.s .z))))) | exact .s (.s (.s (.s (.s (.s (.s .z))))))) rfl rfl rfl ?_
          refine o_assign rfl rfl ?_
          refine triL_nil ?_
          refine thenQ_normal ?_
          refine tri_ret ?_
          refine thenQ_ret ?_
          refine endC2 rfl agg28 sz28 (by first | exact Nth.z | exact .s .z | exact .s (.s .z) | exact .s (.s (.s .z)) | exact .s (.s (.s (.s .z))) | exact .s (.s (.s (.s (.s .z)))) | exact .s (.s (.s (.s (.s (.s .z))))) | exact .s (.s (.s (.s (.s (.s (.s .z))))))) rfl rfl rfl ?_
          have hf : firstV s = ⟨1, (unbe ((s.drop 1).take 8) : Int) - 9223372036854775808, []⟩ ∧ firstN s = 9 := by rw [firstV, firstN, dec0_4 s c40 (by omega)]; exact ⟨rfl, by simp; omega⟩
          exact fun w1 hw1 => ⟨by rw [hf.1, hf.2]; rfl, hw1.chg⟩
      · skip
        simp only [Bool.and_eq_false_iff, decide_eq_false_iff_not] at c4
        have c40 : s.getD 0 0 = 4 → s.length < 9 := fun h => by rcases c4 with c4 | c4; exact absurd h c4; omega
        refine tri_skip ?_
        refine thenQ_normal ?_
        refine tri_seq ?_
        refine tri_seq ?_
        refine tri_region ?_
        refine o_move rfl rfl ?_
        refine o_idxB Try.underlying9 rfl rfl rfl (by decide) (by omega) ?_
        refine o_neqU8 _ 5 rfl rfl rfl ?_
        refine triL_nil ?_
        refine thenQ_normal ?_
        refine tri_if rfl (fun c5 => ?_) (fun c5 => ?_)
        · skip
          have c5 : s.getD 0 0 ≠ 5 := c5
          refine tri_seq ?_
          refine tri_slots [(2, _)] (.cons rfl (.nil _)) ?_
          refine tri_region ?_
          refine o_build bval28 rfl rfl ?_
          refine o_storeBV sz28 (by first | exact Nth.z | exact .s .z | exact .s (.s .z) | exact .s (.s (.s .z)) | exact .s (.s (.s (.s .z))) | exact .s (.s (.s (.s (.s .z)))) | exact .s (.s (.s (.s (.s (.s .z))))) | exact .s (.s (.s (.s (.s (.s (.s .z))))))) rfl rfl rfl ?_
          refine o_assign rfl rfl ?_
          refine triL_nil ?_
          refine thenQ_normal ?_
          refine tri_ret ?_
          refine thenQ_ret ?_
          refine endC2 rfl agg28 sz28 (by first | exact Nth.z | exact .s .z | exact .s (.s .z) | exact .s (.s (.s .z)) | exact .s (.s (.s (.s .z))) | exact .s (.s (.s (.s (.s .z)))) | exact .s (.s (.s (.s (.s (.s .z))))) | exact .s (.s (.s (.s (.s (.s (.s .z))))))) rfl rfl rfl ?_
          have hf : firstV s = Val.zero ∧ firstN s = 0 := by rw [firstV, firstN, dec0_n s hp c1 c2 c40 c5]; exact ⟨rfl, rfl⟩
          exact fun w1 hw1 => ⟨by rw [hf.1, hf.2]; rfl, hw1.chg⟩
        · skip
          have c5 : s.getD 0 0 = 5 := Decidable.not_not.1 c5
          refine tri_skip ?_
          refine thenQ_normal ?_
          refine tri_seq ?_
          refine tri_slots [(2, _), (0, _)] (.cons rfl (.cons rfl (.nil _))) ?_
          refine tri_region ?_
          refine o_assign rfl rfl ?_
          refine triL_nil ?_
          refine thenQ_normal ?_
          refine tri_seq ?_
          refine tri_seq ?_
          refine tri_region ?_
          refine o_assign rfl rfl ?_
          refine triL_nil ?_
          refine thenQ_normal ?_
          refine tri_block ?_
          refine tri_loop (ι := List UInt8 × Nat × Option Addr × Nat) (F := fun q => [(0, .string (B s)), (2, .pointer (some ⟨b2, 0, none⟩)), (6, .slice q.2.2.1 q.1.length q.2.2.2), (7, .int .i64 (q.2.1 : Int))]) (HH := fun q => [row (.slice q.2.2.1 q.1.length q.2.2.2) 5 1 q.1.length (bytesV q.1), box b2 28 Val.zero.cs]) (Pu := fun q => q.2.1 ≤ s.length ∧ 1 ≤ q.2.1 ∧ q.1.length ≤ q.2.1 ∧ decT [] (s.drop 1) = decT q.1 (s.drop q.2.1)) (μ := fun q => s.length - q.2.1) (([], 1, none, 0)) (.cons rfl (.cons rfl (.cons rfl (.cons rfl (.nil _))))) (fun _ h => h.nilRow _ _) (⟨hp, Nat.le_refl _, Nat.zero_le _, rfl⟩) (fun q hi => ?_)
          refine tri_seq ?_
          refine tri_seq ?_
          refine tri_region ?_
          refine o_move rfl rfl ?_
          refine o_move rfl rfl ?_
          refine o_lenB Try.underlying9 rfl rfl ?_
          refine o_lss rfl rfl rfl ?_
          refine triL_nil ?_
          refine thenQ_normal ?_
          refine tri_if rfl (fun h6 => ?_) (fun h6 => ?_)
          · skip
            refine tri_skip ?_
            refine thenQ_normal ?_
            refine tri_join (ι := List UInt8 × Nat × Option Addr × Nat) (fun j => [(0, .string (B s)), (2, .pointer (some ⟨b2, 0, none⟩)), (6, .slice j.2.2.1 j.1.length j.2.2.2), (7, .int .i64 (j.2.1 : Int))]) (fun j => [row (.slice j.2.2.1 j.1.length j.2.2.2) 5 1 j.1.length (bytesV j.1), box b2 28 Val.zero.cs]) (fun j => q.2.1 ≤ j.2.1 ∧ j.2.1 < s.length ∧ j.1.length ≤ j.2.1 + 1 ∧ decT [] (s.drop 1) = decT j.1 (s.drop (j.2.1 + 1))) ?_ (fun j hj => ?_)
            · skip
              refine tri_block ?_
              refine tri_seq ?_
              refine tri_seq ?_
              refine tri_slots [(0, _), (2, _), (6, _), (7, _)] (.cons rfl (.cons rfl (.cons rfl (.cons rfl (.nil _))))) ?_
              refine tri_region ?_
              refine o_move rfl rfl ?_
              refine o_move rfl rfl ?_
              refine o_idxB Try.underlying9 rfl rfl rfl (by omega) (by omega) ?_
              refine o_eqlU8 _ 0 rfl rfl rfl ?_
              refine o_move rfl rfl ?_
              refine' triL_and [_, _, _, _, _] [(0, _), (2, _), (6, _), (7, _)] (dj := 62) (dr := 67) rfl rfl (fun ga => ?_) ⟨_, rfl, rfl, rfl, (.cons rfl (.cons rfl (.cons rfl (.cons rfl (.nil _)))))⟩ rfl ?_
              rotate_left
              · skip
                skip
                refine o_move rfl rfl ?_
                refine o_addN rfl rfl rfl (by omega) ?_
                refine o_move rfl rfl ?_
                refine o_lenB Try.underlying9 rfl rfl ?_
                refine o_lss rfl rfl rfl ?_
                exact triL_nil (Piece.mk rfl rfl (.cons rfl (.cons rfl (.cons rfl (.cons rfl (.nil _))))) (fun _ h => h))
              refine o_move rfl rfl ?_
              refine' triL_and [_, _, _, _, _] [(0, _), (2, _), (6, _), (7, _)] (dj := 69) (dr := 74) rfl rfl (fun gb => ?_) ⟨_, rfl, rfl, rfl, (.cons rfl (.cons rfl (.cons rfl (.cons rfl (.nil _)))))⟩ rfl ?_
              rotate_left
              · skip
                simp only [Bool.and_eq_true, decide_eq_true_eq] at gb
                refine o_move rfl rfl ?_
                refine o_move rfl rfl ?_
                refine o_addN rfl rfl rfl (by omega) ?_
                refine o_idxB Try.underlying9 rfl rfl rfl (by omega) (by omega) ?_
                refine o_eqlU8 _ 1 rfl rfl rfl ?_
                exact triL_nil (Piece.mk rfl rfl (.cons rfl (.cons rfl (.cons rfl (.cons rfl (.nil _))))) (fun _ h => h))
              refine triL_nil ?_
              refine thenQ_normal ?_
              refine tri_cond rfl (fun h7 => ?_) (fun h7 => ?_)
              · skip
                simp only [Bool.and_eq_true, decide_eq_true_eq] at h7
                have h70 : s.getD q.2.1 0 = 0 := h7.1.1
                have h71 : s.getD (q.2.1 + 1) 0 = 1 := h7.2
                have h72 : q.2.1 + 1 < s.length := by omega
                refine tri_seq ?_
                refine tri_region ?_
                refine o_move rfl rfl ?_
                refine o_toText Try.underlying44 Try.underlying5 Try.underlying9 rfl rfl (RdS.row .z) rfl ?_
                refine o_build (bval28_0_2 _ _) rfl rfl ?_
                refine o_move rfl rfl ?_
                refine o_addN rfl rfl rfl (by omega) ?_
                refine o_storeBV sz28 (by first | exact Nth.z | exact .s .z | exact .s (.s .z) | exact .s (.s (.s .z)) | exact .s (.s (.s (.s .z))) | exact .s (.s (.s (.s (.s .z)))) | exact .s (.s (.s (.s (.s (.s .z))))) | exact .s (.s (.s (.s (.s (.s (.s .z))))))) rfl rfl rfl ?_
                refine o_assign rfl rfl ?_
                refine triL_nil ?_
                refine thenQ_normal ?_
                refine tri_ret ?_
                refine thenQ_ret ?_
                refine blockQ_ret ?_
                refine thenQ_ret ?_
                refine thenQ_ret ?_
                refine blockQ_ret ?_
                refine thenQ_ret ?_
                refine endC2 rfl agg28 sz28 (by first | exact Nth.z | exact .s .z | exact .s (.s .z) | exact .s (.s (.s .z)) | exact .s (.s (.s (.s .z))) | exact .s (.s (.s (.s (.s .z)))) | exact .s (.s (.s (.s (.s (.s .z))))) | exact .s (.s (.s (.s (.s (.s (.s .z))))))) rfl rfl rfl ?_
                have hd : decT [] (s.drop 1) = some (q.1, s.drop (q.2.1 + 2)) := by rw [hi.2.2.2, decT_drop s q.1 q.2.1 (by omega), if_pos h70, if_pos h72, if_pos h71]
                have hf : firstV s = ⟨2, 0, q.1⟩ ∧ firstN s = q.2.1 + 2 := by rw [firstV, firstN, dec0_5 s hp c5 hd]; exact ⟨rfl, by simp; omega⟩
                exact fun w1 hw1 => ⟨by rw [hf.1, hf.2]; rfl, hw1.chg⟩
              · skip
                have h7 : ¬ ((s.getD q.2.1 0 = 0 ∧ q.2.1 + 1 < s.length) ∧ s.getD (q.2.1 + 1) 0 = 1) := fun h => by
                  simp only [Bool.and_eq_false_iff, decide_eq_false_iff_not] at h7
                  rcases h7 with (h7 | h7) | h7
                  · exact h7 h.1.1
                  · omega
                  · exact h7 h.2
                refine tri_skip ?_
                refine thenQ_normal ?_
                refine tri_seq ?_
                refine tri_region ?_
                refine o_move rfl rfl ?_
                refine o_move rfl rfl ?_
                refine o_idxB Try.underlying9 rfl rfl rfl (by omega) (by omega) ?_
                refine o_eqlU8 _ 0 rfl rfl rfl ?_
                refine triL_nil ?_
                refine thenQ_normal ?_
                refine tri_if rfl (fun h8 => ?_) (fun h8 => ?_)
                · skip
                  have h8 : s.getD q.2.1 0 = 0 := h8
                  refine tri_seq ?_
                  refine tri_slots [(0, _), (2, _), (6, _), (7, _)] (.cons rfl (.cons rfl (.cons rfl (.cons rfl (.nil _))))) ?_
                  refine tri_region ?_
                  refine o_move rfl rfl ?_
                  refine o_addN rfl rfl rfl (by omega) ?_
                  refine o_assign rfl rfl ?_
                  refine triL_nil ?_
                  refine thenQ_normal ?_
                  refine tri_seq ?_
                  refine tri_seq ?_
                  refine tri_region ?_
                  refine o_move rfl rfl ?_
                  refine o_move rfl rfl ?_
                  refine o_lenB Try.underlying9 rfl rfl ?_
                  refine o_geq rfl rfl rfl ?_
                  refine o_move rfl rfl ?_
                  refine' triL_or [_, _, _, _] [(7, _), (0, _), (2, _), (6, _)] (dj := 91) (dr := 95) rfl rfl (fun g3 => ?_) ⟨_, rfl, rfl, rfl, (.cons rfl (.cons rfl (.cons rfl (.cons rfl (.nil _)))))⟩ rfl ?_
                  rotate_left
                  · skip
                    have g3 := of_decide_eq_false g3
                    refine o_move rfl rfl ?_
                    refine o_move rfl rfl ?_
                    refine o_idxB Try.underlying9 rfl rfl rfl (by omega) (by omega) ?_
                    refine o_neqU8 _ 255 rfl rfl rfl ?_
                    exact triL_nil (Piece.mk rfl rfl (.cons rfl (.cons rfl (.cons rfl (.cons rfl (.nil _))))) (fun _ h => h))
                  refine triL_nil ?_
                  refine thenQ_normal ?_
                  refine tri_cond rfl (fun h9 => ?_) (fun h9 => ?_)
                  · skip
                    have h9 : s.length ≤ q.2.1 + 1 ∨ s.getD (q.2.1 + 1) 0 ≠ 255 := by
                      simp only [Bool.or_eq_true, decide_eq_true_eq] at h9
                      rcases h9 with h9 | h9
                      · left; omega
                      · right; exact h9
                    refine tri_seq ?_
                    refine tri_slots [(2, _)] (.cons rfl (.nil _)) ?_
                    refine tri_region ?_
                    refine o_build bval28 rfl rfl ?_
                    refine o_storeBV sz28 (by first | exact Nth.z | exact .s .z | exact .s (.s .z) | exact .s (.s (.s .z)) | exact .s (.s (.s (.s .z))) | exact .s (.s (.s (.s (.s .z)))) | exact .s (.s (.s (.s (.s (.s .z))))) | exact .s (.s (.s (.s (.s (.s (.s .z))))))) rfl rfl rfl ?_
                    refine o_assign rfl rfl ?_
                    refine triL_nil ?_
                    refine thenQ_normal ?_
                    refine tri_ret ?_
                    refine thenQ_ret ?_
                    refine blockQ_ret ?_
                    refine thenQ_ret ?_
                    refine thenQ_ret ?_
                    refine blockQ_ret ?_
                    refine thenQ_ret ?_
                    refine endC2 rfl agg28 sz28 (by first | exact Nth.z | exact .s .z | exact .s (.s .z) | exact .s (.s (.s .z)) | exact .s (.s (.s (.s .z))) | exact .s (.s (.s (.s (.s .z)))) | exact .s (.s (.s (.s (.s (.s .z))))) | exact .s (.s (.s (.s (.s (.s (.s .z))))))) rfl rfl rfl ?_
                    have hd : decT [] (s.drop 1) = none := by
                      rw [hi.2.2.2, decT_drop s q.1 q.2.1 (by omega), if_pos h8]
                      by_cases hq : q.2.1 + 1 < s.length
                      · rw [if_pos hq, if_neg (fun h => h7 ⟨⟨h8, hq⟩, h⟩), if_neg (h9.resolve_left (by omega))]
                      · rw [if_neg hq]
                    have hf : firstV s = Val.zero ∧ firstN s = 0 := by rw [firstV, firstN, dec0_5n s hp c5 hd]; exact ⟨rfl, rfl⟩
                    exact fun w1 hw1 => ⟨by rw [hf.1, hf.2]; rfl, hw1.chg⟩
                  · skip
                    simp only [Bool.or_eq_false_iff, decide_eq_false_iff_not] at h9
                    have h90 : q.2.1 + 1 < s.length := by omega
                    have h91 : s.getD (q.2.1 + 1) 0 = 255 := Decidable.not_not.1 h9.2
                    refine tri_skip ?_
                    refine thenQ_normal ?_
                    refine tri_region ?_
                    refine o_move rfl rfl ?_
                    refine o_lit1 Try.underlying44 zs5 rfl rfl rfl rfl rfl (by decide) (by decide) (fun b99 => ?_)
                    refine o_append Try.underlying44 zsb5 rfl (by decide) (by first | exact Nth.z | exact .s .z | exact .s (.s .z) | exact .s (.s (.s .z)) | exact .s (.s (.s (.s .z))) | exact .s (.s (.s (.s (.s .z)))) | exact .s (.s (.s (.s (.s (.s .z))))) | exact .s (.s (.s (.s (.s (.s (.s .z))))))) rfl rfl rfl (news := bytesV [0]) (RdS.row .z) rfl (bytesV_one _) (by unfold maxLen; omega) (by omega) (fun A100 c100 => ?_)
                    refine o_assign rfl rfl ?_
                    refine triL_nil ?_
                    refine blockQ_normal ?_
                    refine thenQ_normal ?_
                    exact ⟨(q.1 ++ [0], q.2.1 + 1, A100, c100), (.cons rfl (.cons rfl (.cons (congrArg (fun k : Nat => some (Value.slice A100 k c100)) (by simp)) (.cons rfl (.nil _))))), (fun w1 hw1 => by simp only [List.length_append, bytesV_append]; exact hw1.tail), ⟨by simp only; omega, by simp only; omega, by simp; omega, by rw [hi.2.2.2, decT_drop s q.1 q.2.1 (by omega), if_pos h8, if_pos h90, if_neg (fun h => h7 ⟨⟨h8, h90⟩, h⟩), if_pos h91]⟩⟩
                · skip
                  have h8 : ¬ s.getD q.2.1 0 = 0 := h8
                  refine tri_slots [(0, _), (2, _), (6, _), (7, _)] (.cons rfl (.cons rfl (.cons rfl (.cons rfl (.nil _))))) ?_
                  refine tri_region ?_
                  refine o_move rfl rfl ?_
                  refine o_move rfl rfl ?_
                  refine o_move rfl rfl ?_
                  refine o_idxB Try.underlying9 rfl rfl rfl (by omega) (by omega) ?_
                  refine o_lit1 Try.underlying44 zs5 rfl rfl rfl rfl rfl (by decide) (by decide) (fun b105 => ?_)
                  refine o_append Try.underlying44 zsb5 rfl (by decide) (by first | exact Nth.z | exact .s .z | exact .s (.s .z) | exact .s (.s (.s .z)) | exact .s (.s (.s (.s .z))) | exact .s (.s (.s (.s (.s .z)))) | exact .s (.s (.s (.s (.s (.s .z))))) | exact .s (.s (.s (.s (.s (.s (.s .z))))))) rfl rfl rfl (news := bytesV [s.getD q.2.1 0]) (RdS.row .z) rfl (bytesV_one _) (by unfold maxLen; omega) (by omega) (fun A106 c106 => ?_)
                  refine o_assign rfl rfl ?_
                  refine triL_nil ?_
                  refine blockQ_normal ?_
                  refine thenQ_normal ?_
                  exact ⟨(q.1 ++ [s.getD q.2.1 0], q.2.1, A106, c106), (.cons rfl (.cons rfl (.cons (congrArg (fun k : Nat => some (Value.slice A106 k c106)) (by simp)) (.cons rfl (.nil _))))), (fun w1 hw1 => by simp only [List.length_append, bytesV_append]; exact hw1.tail), ⟨by simp only; omega, by simp only; omega, by simp; omega, by rw [hi.2.2.2, decT_drop s q.1 q.2.1 (by omega), if_neg h8]⟩⟩
            refine tri_region ?_
            refine o_move rfl rfl ?_
            refine o_addN rfl rfl rfl (by omega) ?_
            refine o_assign rfl rfl ?_
            refine triL_nil ?_
            refine thenQ_normal ?_
            exact ⟨(j.1, j.2.1 + 1, j.2.2.1, j.2.2.2), (.cons rfl (.cons rfl (.cons rfl (.cons rfl (.nil _))))), fun _ h => h, ⟨by simp only; omega, by simp only; omega, by simp only; omega, hj.2.2.2⟩, (by have := hj; simp only at this ⊢; omega)⟩
          · skip
            refine tri_exit ?_
            refine thenQ_exit ?_
            refine thenQ_exit ?_
            refine blockQ_here ?_
            refine thenQ_normal ?_
            refine tri_seq ?_
            refine tri_slots [(2, _)] (.cons rfl (.nil _)) ?_
            refine tri_region ?_
            refine o_build bval28 rfl rfl ?_
            refine o_storeBV sz28 (by first | exact Nth.z | exact .s .z | exact .s (.s .z) | exact .s (.s (.s .z)) | exact .s (.s (.s (.s .z))) | exact .s (.s (.s (.s (.s .z)))) | exact .s (.s (.s (.s (.s (.s .z))))) | exact .s (.s (.s (.s (.s (.s (.s .z))))))) rfl rfl rfl ?_
            refine o_assign rfl rfl ?_
            refine triL_nil ?_
            refine thenQ_normal ?_
            refine tri_ret ?_
            refine endC2 rfl agg28 sz28 (by first | exact Nth.z | exact .s .z | exact .s (.s .z) | exact .s (.s (.s .z)) | exact .s (.s (.s (.s .z))) | exact .s (.s (.s (.s (.s .z)))) | exact .s (.s (.s (.s (.s (.s .z))))) | exact .s (.s (.s (.s (.s (.s (.s .z))))))) rfl rfl rfl ?_
            have hd : decT [] (s.drop 1) = none := by rw [hi.2.2.2, decT_end s q.1 q.2.1 (by omega)]
            have hf : firstV s = Val.zero ∧ firstN s = 0 := by rw [firstV, firstN, dec0_5n s hp c5 hd]; exact ⟨rfl, rfl⟩
            exact fun w1 hw1 => ⟨by rw [hf.1, hf.2]; rfl, hw1.chg⟩

theorem decR4 (s : List UInt8) (w : World) (hs : s.length ≤ 140737488355328) : Calls Try.prog 8 #[.string (B s)] w (DecR s w) := by
  refine calls_tri (args := [.string (B s)]) (lent := []) (H := []) Try.func8 rfl Try.ntmps8 rfl (Sat.start _ _ _ _) ?_
  refine (show Tri _ [(0, _)] _ _ _ from ?_)
  refine tri_seq ?_
  refine tri_region ?_
  refine o_assign rfl rfl ?_
  refine o_assign rfl rfl ?_
  refine triL_nil ?_
  refine thenQ_normal ?_
  refine tri_seq ?_
  refine tri_seq ?_
  refine tri_region ?_
  refine o_move rfl rfl ?_
  refine o_lenB Try.underlying9 rfl rfl ?_
  refine o_gtr rfl rfl rfl ?_
  refine triL_nil ?_
  refine thenQ_normal ?_
  refine tri_if rfl (fun h0 => ?_) (fun h0 => ?_)
  · skip
    refine tri_seq ?_
    refine tri_slots [] (.nil _) ?_
    refine tri_region ?_
    refine o_assign rfl rfl ?_
    refine o_assign rfl rfl ?_
    refine triL_nil ?_
    refine thenQ_normal ?_
    refine tri_ret ?_
    refine thenQ_ret ?_
    refine end2 rfl rfl rfl ?_
    exact fun w1 hw1 => .inl ⟨by rw [decS, if_pos (by omega)], fin_pure w1 hw1⟩
  · skip
    have h140 : s.length ≤ 140 := by omega
    refine tri_skip ?_
    refine thenQ_normal ?_
    refine tri_seq ?_
    refine tri_slots [(0, _)] (.cons rfl (.nil _)) ?_
    refine tri_region ?_
    refine o_assign rfl rfl ?_
    refine triL_nil ?_
    refine thenQ_normal ?_
    refine tri_seq ?_
    refine tri_seq ?_
    refine tri_region ?_
    refine o_assign rfl rfl ?_
    refine triL_nil ?_
    refine thenQ_normal ?_
    refine tri_block ?_
    refine tri_loop (ι := List Val × Nat × Option Addr × Nat) (F := fun q => [(0, .string (B s)), (4, .slice q.2.2.1 q.1.length q.2.2.2), (5, .int .i64 (q.2.1 : Int))]) (HH := fun q => [row (.slice q.2.2.1 q.1.length q.2.2.2) 28 3 q.1.length (valsV q.1)]) (Pu := fun q => q.2.1 ≤ s.length ∧ q.1.length ≤ q.2.1 ∧ decN 141 s.length [] s = decN 141 (s.length - q.2.1) q.1 (s.drop q.2.1)) (μ := fun q => s.length - q.2.1) (([], 0, none, 0)) (.cons rfl (.cons rfl (.cons rfl (.nil _)))) (fun _ h => h.nilRow _ _) (⟨Nat.zero_le _, Nat.zero_le _, rfl⟩) (fun q hi => ?_)
    refine tri_seq ?_
    refine tri_seq ?_
    refine tri_region ?_
    refine o_move rfl rfl ?_
    refine o_move rfl rfl ?_
    refine o_lenB Try.underlying9 rfl rfl ?_
    refine o_lss rfl rfl rfl ?_
    refine triL_nil ?_
    refine thenQ_normal ?_
    refine tri_if rfl (fun h1 => ?_) (fun h1 => ?_)
    · skip
      refine tri_skip ?_
      refine thenQ_normal ?_
      refine tri_block ?_
      refine tri_seq ?_
      refine tri_slots [(0, _), (4, _), (5, _)] (.cons rfl (.cons rfl (.cons rfl (.nil _)))) ?_
      refine tri_region ?_
      refine o_move rfl rfl ?_
      refine o_move rfl rfl ?_
      refine o_sliceBl Try.underlying9 rfl rfl rfl (by omega) (by omega) ?_
      refine o_callP (first := []) (cap := []) rfl rfl rfl Try.call20 (fun w1 h1 => firstR (s.drop q.2.1) w1 (by simp; omega) (by simp; omega)) ?_
      refine o_move rfl rfl ?_
      refine o_extract rfl rfl rfl ?_
      refine o_extract rfl rfl rfl ?_
      refine o_alloc (Val.cs Val.zero) rfl zero28 rfl (fun b6 => ?_)
      refine o_storeBV sz28 (by first | exact Nth.z | exact .s .z | exact .s (.s .z) | exact .s (.s (.s .z)) | exact .s (.s (.s (.s .z))) | exact .s (.s (.s (.s (.s .z)))) | exact .s (.s (.s (.s (.s (.s .z))))) | exact .s (.s (.s (.s (.s (.s (.s .z))))))) rfl rfl rfl ?_
      refine o_assign rfl rfl ?_
      refine triL_nil ?_
      refine thenQ_normal ?_
      refine tri_seq ?_
      refine tri_seq ?_
      refine tri_slots [(7, _), (6, _), (0, _), (4, _), (5, _)] (.cons rfl (.cons rfl (.cons rfl (.cons rfl (.cons rfl (.nil _)))))) ?_
      refine tri_region ?_
      refine o_move rfl rfl ?_
      refine o_eqlI rfl rfl rfl ?_
      refine o_move rfl rfl ?_
      refine' triL_or [_, _, _] [(7, _), (6, _), (0, _), (4, _), (5, _)] (dj := 24) (dr := 27) rfl rfl (fun g1 => ?_) ⟨_, rfl, rfl, rfl, (.cons rfl (.cons rfl (.cons rfl (.cons rfl (.cons rfl (.nil _))))))⟩ rfl ?_
      rotate_left
      · skip
        skip
        refine o_loadBV agg28 sz28 (by first | exact Nth.z | exact .s .z | exact .s (.s .z) | exact .s (.s (.s .z)) | exact .s (.s (.s (.s .z))) | exact .s (.s (.s (.s (.s .z)))) | exact .s (.s (.s (.s (.s (.s .z))))) | exact .s (.s (.s (.s (.s (.s (.s .z))))))) rfl rfl ?_
        refine o_callP (first := []) (cap := []) rfl rfl rfl Try.call21 (fun w1 h1 => mayR (firstV (s.drop q.2.1)) w1 (by have := firstV_len (s.drop q.2.1); simp at this; omega)) ?_
        refine o_not rfl rfl ?_
        exact triL_nil (Piece.mk rfl rfl (.cons rfl (.cons rfl (.cons rfl (.cons rfl (.cons rfl (.nil _)))))) (fun _ h => h))
      refine triL_nil ?_
      refine thenQ_normal ?_
      refine tri_cond rfl (fun h2 => ?_) (fun h2 => ?_)
      · skip
        simp only [Bool.or_eq_true, Bool.not_eq_true', decide_eq_true_eq] at h2
        refine tri_seq ?_
        refine tri_slots [] (.nil _) ?_
        refine tri_region ?_
        refine o_assign rfl rfl ?_
        refine o_assign rfl rfl ?_
        refine triL_nil ?_
        refine thenQ_normal ?_
        refine tri_ret ?_
        refine thenQ_ret ?_
        refine blockQ_ret ?_
        refine thenQ_ret ?_
        refine blockQ_ret ?_
        refine thenQ_ret ?_
        refine end2 rfl rfl rfl ?_
        have hno : decS s = none := by
          rw [decS_cut s h140, hi.2.2, decN_none 141 s q.2.1 q.1 (by omega) (dec1_first_no _ (by rcases h2 with h2 | h2; left; omega; right; exact h2))]
        exact fun w1 hw1 => .inl ⟨hno, fin_pure w1 hw1⟩
      · skip
        simp only [Bool.or_eq_false_iff, Bool.not_eq_false', decide_eq_false_iff_not] at h2
        obtain ⟨hv, hn⟩ := dec1_first (s.drop q.2.1) (by omega) h2.2
        rw [List.drop_drop] at hv
        have hn2 : firstN (s.drop q.2.1) ≤ s.length - q.2.1 := by simpa using hn
        refine tri_skip ?_
        refine thenQ_normal ?_
        refine tri_seq ?_
        refine tri_region ?_
        refine o_move rfl rfl ?_
        refine o_loadBV agg28 sz28 (by first | exact Nth.z | exact .s .z | exact .s (.s .z) | exact .s (.s (.s .z)) | exact .s (.s (.s (.s .z))) | exact .s (.s (.s (.s (.s .z)))) | exact .s (.s (.s (.s (.s (.s .z))))) | exact .s (.s (.s (.s (.s (.s (.s .z))))))) rfl rfl ?_
        refine o_lit1 Try.underlying22 zs28 rfl rfl rfl rfl rfl (by decide) (by decide) (fun b31 => ?_)
        refine o_append Try.underlying22 zsb28 rfl (by decide) (by first | exact Nth.z | exact .s .z | exact .s (.s .z) | exact .s (.s (.s .z)) | exact .s (.s (.s (.s .z))) | exact .s (.s (.s (.s (.s .z)))) | exact .s (.s (.s (.s (.s (.s .z))))) | exact .s (.s (.s (.s (.s (.s (.s .z))))))) rfl rfl rfl (news := valsV [firstV (s.drop q.2.1)]) (RdS.row .z) rfl (valsV_one _) (by unfold maxLen; omega) (by omega) (fun A32 c32 => ?_)
        refine o_assign rfl rfl ?_
        refine triL_nil ?_
        refine thenQ_normal ?_
        refine tri_slots [(4, _), (7, _), (0, _), (5, _)] (.cons rfl (.cons rfl (.cons rfl (.cons rfl (.nil _))))) ?_
        refine tri_region ?_
        refine o_move rfl rfl ?_
        refine o_move rfl rfl ?_
        refine o_addN rfl rfl rfl (by omega) ?_
        refine o_assign rfl rfl ?_
        refine triL_nil ?_
        refine blockQ_normal ?_
        refine thenQ_normal ?_
        have e := decN_step 141 s q.2.1 (q.2.1 + firstN (s.drop q.2.1)) q.1 (firstV (s.drop q.2.1)) (by omega) hv (by omega)
        rw [if_neg (by omega)] at e
        exact ⟨(q.1 ++ [firstV (s.drop q.2.1)], q.2.1 + firstN (s.drop q.2.1), A32, c32), (.cons rfl (.cons (congrArg (fun k : Nat => some (Value.slice A32 k c32)) (by simp)) (.cons (congrArg (fun k : Int => some (Value.int .i64 k)) (by simp only; omega)) (.nil _)))), (fun w1 hw1 => by simp only [List.length_append, valsV_append]; exact hw1.tail.tail), ⟨by simp only; omega, by simp; omega, by rw [hi.2.2, e]⟩, (by simp only; omega)⟩
    · skip
      refine tri_exit ?_
      refine thenQ_exit ?_
      refine thenQ_exit ?_
      refine blockQ_here ?_
      refine thenQ_normal ?_
      refine tri_seq ?_
      refine tri_seq ?_
      refine tri_slots [(4, _)] (.cons rfl (.nil _)) ?_
      refine tri_region ?_
      refine o_move rfl rfl ?_
      refine o_lenS Try.underlying22 rfl rfl ?_
      refine o_gtr rfl rfl rfl ?_
      refine triL_nil ?_
      refine thenQ_normal ?_
      refine tri_if rfl (fun h3 => ?_) (fun h3 => ?_)
      · skip
        refine tri_seq ?_
        refine tri_slots [] (.nil _) ?_
        refine tri_region ?_
        refine o_assign rfl rfl ?_
        refine o_assign rfl rfl ?_
        refine triL_nil ?_
        refine thenQ_normal ?_
        refine tri_ret ?_
        refine thenQ_ret ?_
        refine end2 rfl rfl rfl ?_
        have hat : q.2.1 = s.length := by omega
        rw [hat, decN_end] at hi
        have hno : decS s = none := by
          rw [decS_cut s h140, hi.2.2]; simp only; rw [if_pos (by omega)]
        exact fun w1 hw1 => .inl ⟨hno, fin_pure w1 hw1⟩
      · skip
        refine tri_skip ?_
        refine thenQ_normal ?_
        refine tri_seq ?_
        refine tri_region ?_
        refine o_move rfl rfl ?_
        refine o_assign rfl rfl ?_
        refine o_assign rfl rfl ?_
        refine triL_nil ?_
        refine thenQ_normal ?_
        refine tri_ret ?_
        refine end2 rfl rfl rfl ?_
        have hat : q.2.1 = s.length := by omega
        rw [hat, decN_end] at hi
        exact fun w1 hw1 => .inr ⟨q.1, by rw [decS_cut s h140, hi.2.2]; simp only; rw [if_neg (by omega)], fin_row (fun v => .tuple #[v, .int .i64 0]) .z w1 hw1⟩

end Go.Proofs.Ytidnfamnigbbmaa
