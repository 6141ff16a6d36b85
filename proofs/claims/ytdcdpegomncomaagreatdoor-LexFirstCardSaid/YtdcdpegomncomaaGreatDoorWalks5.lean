/- faults; the same tokens, walked -/
import Derived.Test.YtdcdpegomncomaaGreatDoorWalks4
import Derived.Test.YtdcdpegomncomaaGreatDoorLex7
import Derived.Test.YtdcdpegomncomaaGreatDoorErrs
namespace Go.Proofs.YtdcdpegomncomaaGreatDoor
open Go.WK Go.RowKit 

theorem zero29 : (Tryz.prog.info? 29).map (·.zero) = some (some (.agg #[.int .i64 0, .int .i64 0])) := by kernel_rfl
theorem built29  : Tryz.prog.built 29 [] = some ([.int .i64 0, .int .i64 0] : List Value).toArray := by kernel_rfl
theorem sz29 : szB Tryz.prog 29 = some 2 := by kernel_rfl
theorem agg29 : aggB Tryz.prog 29 = some true := by kernel_rfl
theorem fo29_0 : fieldB Tryz.prog 29 0 = some 0 := by kernel_rfl
theorem agg27 : aggB Tryz.prog 27 = some false := by kernel_rfl

structure LX (w : World) : Prop where
  c : w.cell? ⟨0, 0, none⟩ = some (.iface 95 (.agg #[.pointer (some ⟨10, 24, none⟩)]))
theorem LX.chg {w w' : World} (h : LX w) (hc : Chg [] w w') : LX w' := ⟨by rw [hc.below.cell (p := ⟨0, 0, none⟩) (World.block_lt_of_cell? _ _ h.c)]; exact h.c⟩
theorem asK (c p : Int) (b : Nat) (w : World) (hs : Sat ⟨default, 0, [], w, [b]⟩ [box b 29 [.int .i64 0, .int .i64 0]] w) (hX : LX w) :
    Calls Tryz.prog 22 #[.iface 29 (.agg #[.int .i64 c, .int .i64 p]), .iface 53 (.pointer (some ⟨b, 0, none⟩))] w (Turn w [b] (fun _ : Unit => .bool true) (fun _ => [box b 29 [.int .i64 c, .int .i64 p]]) (fun _ => True)) := by
  have hb : w.heap[b]? = some (.cells #[.int .i64 0, .int .i64 0] 29 (0, 0)) := hs.holds _ List.mem_cons_self
  refine (as_hit c p b _ _ w hX.c hb).mono fun e w' ⟨he, hw⟩ => ⟨(), trivial, he, ?_⟩
  subst hw
  have h4 : Sat ⟨default, 0, [], w, [b]⟩ [box b 29 [.int .i64 0, .int .i64 0]] ((((w.alloc (.cells #[.pointer (some ⟨b, 0, none⟩)] 53)).alloc (.cells #[.pointer (some ⟨10, 53, none⟩), .pointer (some ⟨w.heap.size, 0, none⟩), .int .u64 150] 75)).alloc (.cells #[.pointer (some ⟨10, 53, none⟩), .pointer (some ⟨w.heap.size, 0, none⟩), .int .u64 150] 75)).alloc (.cells #[.int .i64 c, .int .i64 p] 29)) := (((hs.ext (Chg.alloc [] _ _)).ext (Chg.alloc [] _ _)).ext (Chg.alloc [] _ _)).ext (Chg.alloc [] _ _)
  have hb4 : (((((w.alloc (.cells #[.pointer (some ⟨b, 0, none⟩)] 53)).alloc (.cells #[.pointer (some ⟨10, 53, none⟩), .pointer (some ⟨w.heap.size, 0, none⟩), .int .u64 150] 75)).alloc (.cells #[.pointer (some ⟨10, 53, none⟩), .pointer (some ⟨w.heap.size, 0, none⟩), .int .u64 150] 75)).alloc (.cells #[.int .i64 c, .int .i64 p] 29))).heap[b]? = some (.cells #[.int .i64 0, .int .i64 0] 29 (0, 0)) := h4.holds _ List.mem_cons_self
  exact h4.change Nth.z (box b 29 [.int .i64 c, .int .i64 p]) (heap_setRow_same _ hb4) rfl rfl rfl (by simp) (fun k _ hk => heap_setRow_other _ (fun e => hk e)) (fun k hk => .inl hk)
theorem isK (c p : Int) (w : World) : Calls Tryz.prog 23 #[.iface 29 (.agg #[.int .i64 c, .int .i64 p]), .iface 27 (.int .i64 c)] w (Pure w (.bool true)) :=
  (is_code c p w).mono fun e w' ⟨he, hw⟩ => ⟨he, by rw [hw]; exact Chg.alloc [] _ _⟩

theorem faultK (r : Res) (w : World) (hX : LX w) : Calls Tryz.prog 7 #[errR 29 r] w (Pure w (.agg #[.int .i64 (fc r).1, .int .i64 (fc r).2])) := by
  refine calls_tri (args := [errR 29 r]) (lent := []) (H := []) Tryz.func7 rfl Tryz.ntmps7 rfl (Sat.start _ _ _ _) ?_
  refine (show Tri _ [(0, _)] _ _ _ from ?_)
  refine tri_seq ?_
  refine tri_region ?_
  refine o_alloc _ rfl zero29 rfl (fun b2 => ?_)
  refine triL_nil ?_
  refine thenQ_normal ?_
  refine tri_seq ?_
  refine tri_seq ?_
  refine tri_region ?_
  refine o_move rfl rfl ?_
  refine o_eqlErr ifE (errIs _ _) rfl rfl ?_
  refine triL_nil ?_
  refine thenQ_normal ?_
  refine tri_cond rfl (fun h0 => ?_) (fun h0 => ?_)
  · skip
    obtain ⟨ts, rfl⟩ := okR_ok h0
    refine tri_seq ?_
    refine tri_region ?_
    refine o_build built29 rfl rfl ?_
    refine o_store sz29 (by repeat (first | exact Nth.z | apply Nth.s)) rfl rfl rfl rfl rfl (Nat.le_of_ble_eq_true rfl) rfl ?_
    refine triL_nil ?_
    refine thenQ_normal ?_
    refine tri_ret ?_
    refine thenQ_ret ?_
    refine endC1 rfl agg29 sz29 (by repeat (first | exact Nth.z | apply Nth.s)) rfl rfl ?_
    exact fun w1 hw1 => ⟨rfl, hw1.chg⟩
  · skip
    obtain ⟨e, rfl⟩ := okR_bad h0
    refine tri_skip ?_
    refine thenQ_normal ?_
    refine tri_seq ?_
    refine tri_region ?_
    refine o_alloc _ rfl zero29 rfl (fun b3 => ?_)
    refine triL_nil ?_
    refine thenQ_normal ?_
    refine tri_seq ?_
    refine tri_seq ?_
    refine tri_region ?_
    refine o_move rfl rfl ?_
    refine o_iface Tryz.underlying53 rfl rfl rfl ?_
    refine o_callM (first := []) (cap := []) [] [_] _ [b3] rfl rfl rfl rfl Tryz.call22 lend_box lend_box' (fun w1 h1 h2 => asK e.1 e.2 b3 w1 h2.cx (hX.chg h1.chg)) (fun _ _ => ?_)
    refine o_move rfl rfl ?_
    refine' triL_and [_, _, _, _, _] [(3, _), (2, _)] (dj := 10) (dr := 15) rfl rfl (fun g1 => ?_) ⟨_, rfl, rfl, rfl, (.cons rfl (.cons rfl (.nil _)))⟩ rfl ?_
    rotate_left
    · skip
      refine o_move rfl rfl ?_
      refine o_field fo29_0 rfl rfl ?_
      refine o_load agg27 (by repeat (first | exact Nth.z | apply Nth.s)) rfl rfl rfl ?_
      refine o_iface Tryz.underlying27 rfl rfl rfl ?_
      refine o_callP (first := []) (cap := []) rfl rfl rfl Tryz.call23 (fun w1 h1 => isK e.1 e.2 w1) ?_
      exact triL_nil (Piece.mk rfl rfl (.cons rfl (.cons rfl (.nil _))) (fun _ h => h))
    refine triL_nil ?_
    refine thenQ_normal ?_
    refine tri_cond_true rfl ?_
    refine tri_seq ?_
    refine tri_region ?_
    refine o_loadA agg29 sz29 (by repeat (first | exact Nth.z | apply Nth.s)) rfl rfl rfl rfl ?_
    refine o_store sz29 (by repeat (first | exact Nth.z | apply Nth.s)) rfl rfl rfl rfl rfl (Nat.le_of_ble_eq_true rfl) rfl ?_
    refine triL_nil ?_
    refine thenQ_normal ?_
    refine tri_ret ?_
    refine thenQ_ret ?_
    refine endC1 rfl agg29 sz29 (by repeat (first | exact Nth.z | apply Nth.s)) rfl rfl ?_
    exact fun w1 hw1 => ⟨rfl, hw1.chg⟩

theorem sameR (X Y : Option Addr) (n c m d : Nat) (ts us : List Tok) (w : World) (hx : Rd w X (toksV ts)) (hy : Rd w Y (toksV us)) (hn : ts.length = n) (hm : us.length = m) (hn2 : n ≤ 100000) (hm2 : m ≤ 100000) : Calls Tryz.prog 8 #[.slice X n c, .slice Y m d] w (Pure w (.bool (decide (ts = us)))) := by
  refine calls_tri (args := [.slice X n c, .slice Y m d]) (lent := []) (H := []) Tryz.func8 rfl Tryz.ntmps8 rfl (Sat.start _ _ _ _) ?_
  refine (show Tri _ [(0, _), (1, _)] _ _ _ from ?_)
  have hR : ∀ cx H, cx.w0 = w → cx.lent = [] → RdS cx H X (toksV ts) := fun cx H q1 q2 => RdS.arg (by rw [q1]; exact hx) q2
  have hY : ∀ cx H, cx.w0 = w → cx.lent = [] → RdS cx H Y (toksV us) := fun cx H q1 q2 => RdS.arg (by rw [q1]; exact hy) q2
  refine tri_seq ?_
  refine tri_region ?_
  refine o_assign rfl rfl ?_
  refine triL_nil ?_
  refine thenQ_normal ?_
  refine tri_seq ?_
  refine tri_seq ?_
  refine tri_region ?_
  refine o_move rfl rfl ?_
  refine o_lenS Tryz.underlying22 rfl rfl ?_
  refine o_move rfl rfl ?_
  refine o_lenS Tryz.underlying22 rfl rfl ?_
  refine o_neqI rfl rfl rfl ?_
  refine triL_nil ?_
  refine thenQ_normal ?_
  refine tri_if rfl (fun h0 => ?_) (fun h0 => ?_)
  · skip
    refine tri_seq ?_
    refine tri_slots [] (.nil _) ?_
    refine tri_region ?_
    refine o_assign rfl rfl ?_
    refine triL_nil ?_
    refine thenQ_normal ?_
    refine tri_ret ?_
    refine thenQ_ret ?_
    refine end1 rfl rfl ?_
    exact fun w1 hw1 => ⟨congrArg (fun b => Ending.returned (.bool b)) (by exact (decide_eq_false (fun e => by rw [e] at hn; omega)).symm), hw1.chg⟩
  · skip
    have h0 : n = m := by omega
    refine tri_skip ?_
    refine thenQ_normal ?_
    refine tri_seq ?_
    refine tri_seq ?_
    refine tri_slots [(0, _), (1, _)] (.cons rfl (.cons rfl (.nil _))) ?_
    refine tri_region ?_
    refine o_assign rfl rfl ?_
    refine triL_nil ?_
    refine thenQ_normal ?_
    refine tri_block ?_
    refine tri_loop (ι := Nat) (F := fun i => [(0, .slice X n c), (1, .slice Y m d), (5, .int .i64 (i : Int))]) (HH := fun i => []) (Pu := fun i => i ≤ n ∧ ts.take i = us.take i) (μ := fun i => n - i) (0) (.cons rfl (.cons rfl (.cons rfl (.nil _)))) (fun _ h => h) (⟨by omega, by simp⟩) (fun i hi => ?_)
    refine tri_seq ?_
    refine tri_seq ?_
    refine tri_region ?_
    refine o_move rfl rfl ?_
    refine o_move rfl rfl ?_
    refine o_lenS Tryz.underlying22 rfl rfl ?_
    refine o_lss rfl rfl rfl ?_
    refine triL_nil ?_
    refine thenQ_normal ?_
    refine tri_if rfl (fun h1 => ?_) (fun h1 => ?_)
    · skip
      refine tri_skip ?_
      refine thenQ_normal ?_
      refine tri_seq ?_
      refine tri_block ?_
      refine tri_seq ?_
      refine tri_slots [(0, _), (1, _), (5, _)] (.cons rfl (.cons rfl (.cons rfl (.nil _)))) ?_
      refine tri_quiet (by kernel_rfl) (by kernel_rfl) ?_
      refine o_move rfl rfl ?_
      refine o_move rfl rfl ?_
      refine o_idxS Tryz.underlying22 sz35 rfl rfl rfl (hR _ _ rfl rfl) (by omega) (by omega) (by rw [toksV_length]; omega) (by decide) ?_
      refine o_loadTk i agg35 sz35 rfl rfl (hR _ _ rfl rfl) (by omega) (by omega) ?_
      refine o_move rfl rfl ?_
      refine o_move rfl rfl ?_
      refine o_idxS Tryz.underlying22 sz35 rfl rfl rfl (hY _ _ rfl rfl) (by omega) (by omega) (by rw [toksV_length]; omega) (by decide) ?_
      refine o_loadTk i agg35 sz35 rfl rfl (hY _ _ rfl rfl) (by omega) (by omega) ?_
      refine o_neqTk flat35 rfl rfl rfl ?_
      refine triL_nil ?_
      refine thenQ_normal ?_
      refine tri_cond rfl (fun h2 => ?_) (fun h2 => ?_)
      · skip
        have h2 : ts.getD i Tok.zero ≠ us.getD i Tok.zero := fun e => by rw [decide_eq_true e] at h2; cases h2
        refine tri_seq ?_
        refine tri_slots [] (.nil _) ?_
        refine tri_region ?_
        refine o_assign rfl rfl ?_
        refine triL_nil ?_
        refine thenQ_normal ?_
        refine tri_ret ?_
        refine blockQ_ret ?_
        refine thenQ_ret ?_
        refine thenQ_ret ?_
        refine blockQ_ret ?_
        refine thenQ_ret ?_
        refine end1 rfl rfl ?_
        exact fun w1 hw1 => ⟨congrArg (fun b => Ending.returned (.bool b)) (by exact (decide_eq_false (fun e => h2 (by rw [e]))).symm), hw1.chg⟩
      · skip
        have h2 : ts.getD i Tok.zero = us.getD i Tok.zero := of_decide_eq_true (by simpa using h2)
        refine tri_skip ?_
        refine blockQ_normal ?_
        refine thenQ_normal ?_
        refine tri_slots [(0, _), (1, _), (5, _)] (.cons rfl (.cons rfl (.cons rfl (.nil _)))) ?_
        refine tri_region ?_
        refine o_move rfl rfl ?_
        refine o_addN rfl rfl rfl (by omega) ?_
        refine o_assign rfl rfl ?_
        refine triL_nil ?_
        refine thenQ_normal ?_
        exact ⟨i + 1, (.cons rfl (.cons rfl (.cons rfl (.nil _)))), fun _ h => h, ⟨by omega, take_eq_snoc (by omega) (by omega) hi.2 h2⟩, by omega⟩
    · skip
      refine tri_exit ?_
      refine thenQ_exit ?_
      refine thenQ_exit ?_
      refine blockQ_here ?_
      refine thenQ_normal ?_
      refine tri_seq ?_
      refine tri_slots [] (.nil _) ?_
      refine tri_region ?_
      refine o_assign rfl rfl ?_
      refine triL_nil ?_
      refine thenQ_normal ?_
      refine tri_ret ?_
      refine end1 rfl rfl ?_
      exact fun w1 hw1 => ⟨congrArg (fun b => Ending.returned (.bool b)) (by refine (decide_eq_true ?_).symm; have h := hi.2; rwa [List.take_of_length_le (by omega), List.take_of_length_le (by omega)] at h), hw1.chg⟩

end Go.Proofs.YtdcdpegomncomaaGreatDoor
